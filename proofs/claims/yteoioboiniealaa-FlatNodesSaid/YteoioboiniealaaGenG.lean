/- The contract of the generator's task. -/
import Derived.Test.YteoioboiniealaaGenG7
namespace Go.Proofs.Yteoioboiniealaa
open Go.RowKit
attribute [local go_sem ↓] Go.wp_at_zero Go.wp_at_succ

theorem part_at {w : World} {ps : List PartD} {A : Option Addr} {c : Nat} (h : Rd w (partsD ps) (.slice A ps.length c)) (i : Nat) (hi : i < ps.length) : ∃ b, A = some ⟨b, 0, none⟩ ∧ b < w.heap.size ∧ w.cell? ⟨b, i * 2, none⟩ = some (.string (ps.getD i ⟨⟨#[]⟩, ⟨#[]⟩⟩).id) ∧ ∀ (g : Nat) (cs : Array Value), Blk w g 89 cs → b ≠ g := by
  obtain ⟨_, _, _, hv0, hown0, _⟩ := rd_sl.1 h
  obtain ⟨A', c', hv, _, _, hat⟩ := rd_at partC_len h
  injection hv with h1 _ _
  subst h1
  obtain ⟨b, vs, rfl, hb, _, hvs, hcell⟩ := hat i hi
  obtain rfl := rd_partC hvs
  have := hcell 0 (by omega)
  rw [List.getD_eq_getElem?_getD, List.getElem?_eq_getElem hi]
  refine ⟨b, rfl, hb, this, fun g cs hg e => ?_⟩
  injection hv0 with e1 _ e3
  subst e1
  subst e3
  exact blk_own_ne hown0 hg (by decide) (by rw [← e]; rfl)

set_option maxRecDepth 100000 in
set_option maxHeartbeats 16000000 in
theorem task_any {w : World} {A : Option Addr} {cap : Nat} {m : MkD} {c : Array Value} (hM : MkR w A cap m c) (hs : SmallM 8000 m) (h2 : 2 ≤ m.parts.length) (h4 : m.parts.length ≤ 4) (x : Nat) (hx : x ≤ 16777216) :
    Calls Try.prog 77 #[.agg c, .int .i64 x] w (MkEnd w A cap (.string (gnameF m chT)) (gtaskF m x)) := by
  obtain ⟨AP, cP, AF, cF, AI, cI, AS, cS, rfl, hC⟩ := hM
  obtain ⟨i0, hi0, hz0, hz1, hz2⟩ := info_parts Try.infoFlowG
  obtain ⟨j0, hj0, hy0, hy1, hy2⟩ := info_parts Try.infoStrG
  have HS := Lib.hid hs
  obtain ⟨n, hn⟩ : ∃ n, n = m.parts.length := ⟨_, rfl⟩
  obtain ⟨a, ha⟩ : ∃ a, a = gA m x := ⟨_, rfl⟩
  obtain ⟨b, hb⟩ : ∃ b, b = gB m x := ⟨_, rfl⟩
  obtain ⟨q, hq⟩ : ∃ q, q = x / 16 % 16 := ⟨_, rfl⟩
  obtain ⟨r, hr⟩ : ∃ r, r = q % (n - 1) := ⟨_, rfl⟩
  obtain ⟨q8, hq8⟩ : ∃ q, q = x / 256 % 16 := ⟨_, rfl⟩
  obtain ⟨r8, hr8⟩ : ∃ r, r = q8 % 3 := ⟨_, rfl⟩
  obtain ⟨q7, hq7⟩ : ∃ q, q = x / 16384 % 8 := ⟨_, rfl⟩
  obtain ⟨q3, hq3⟩ : ∃ q, q = x / 4096 % 4 := ⟨_, rfl⟩
  obtain ⟨lp, hlp⟩ : ∃ lp, lp = gloop x := ⟨_, rfl⟩
  have han : a < n := by rw [ha, hn]; exact Nat.mod_lt _ (by omega)
  have hbn : b < n := by rw [hb, hn]; exact Nat.mod_lt _ (by omega)
  have hrn : r < n - 1 := by rw [hr]; exact Nat.mod_lt _ (by omega)
  have f1 : bits BinOp.and IntKind.i64 (x : Int) 15 = ((x % 16 : Nat) : Int) := (and_low (x : Int) 4 (by omega)).trans (by omega)
  have f2 : (x : Int) % 16 % (n : Int) = (a : Int) := by
    have : a = x % 16 % n := by rw [ha, hn]; rfl
    rw [this, Int.natCast_emod, Int.natCast_emod]
    rfl
  have f3 : bits BinOp.and IntKind.i64 ((x : Int) / 16) 15 = (q : Int) := (and_low ((x : Int) / 16) 4 (by omega)).trans (by rw [hq]; omega)
  have f4 : (q : Int) % ((n : Int) - 1) = (r : Int) := by
    rw [hr, show ((n : Int) - 1) = ((n - 1 : Nat) : Int) by omega]
    exact (Int.natCast_emod q (n - 1)).symm
  have f5 : ((a : Int) + 1 + (r : Int)) % (n : Int) = (b : Int) := by
    have : b = (a + 1 + r) % n := by rw [hb, hr, hq, ha, hn]; rfl
    rw [this, Int.natCast_emod]
    rfl
  have f6 : bits BinOp.and IntKind.i64 ((x : Int) / 256) 15 = (q8 : Int) := (and_low ((x : Int) / 256) 4 (by omega)).trans (by rw [hq8]; omega)
  have f7 : (q8 : Int).tmod 3 = (r8 : Int) := by rw [Int.tmod_eq_emod_of_nonneg (by omega), hr8]; omega
  have f8 : bits BinOp.and IntKind.i64 ((x : Int) / 16384) 7 = (q7 : Int) := (and_low ((x : Int) / 16384) 3 (by omega)).trans (by rw [hq7]; omega)
  have f9 : ((q7 : Int) == 0) = lp := by rw [hlp, hq7]; unfold gloop; rw [Bool.eq_iff_iff]; simp; omega
  have f10 : bits BinOp.and IntKind.i64 ((x : Int) / 4096) 3 = (q3 : Int) := (and_low ((x : Int) / 4096) 2 (by omega)).trans (by rw [hq3]; omega)
  have hr83 : r8 < 3 := by omega
  have hq70 : q7 < 8 := by omega
  have hq80 : q8 < 16 := by omega
  have hq30 : q3 < 4 := by omega
  have hq0 : q < 16 := by omega
  have hgm := gmsg_at x
  rw [← hq8, ← hr8] at hgm
  obtain ⟨ms, hms⟩ : ∃ ms, ms = gmsg x := ⟨_, rfl⟩
  rw [← hms] at hgm
  have hbk : (q3 = 0) ↔ gback x = true := by rw [hq3]; unfold gback; simp
  have HA := Lib.hid ha
  have HBb := Lib.hid hb
  have HN := Lib.hid hn
  have HLP := Lib.hid hlp
  have HMS := Lib.hid hms
  have HBK := Lib.hid hbk
  have HGM := Lib.hid hgm
  obtain ⟨W, hW⟩ : ∃ W, W = (w.alloc (.cells #[.slice A m.p.length cap, .int .i64 m.at_, .int .i64 m.n, .slice AP m.parts.length cP, .slice AF m.flows.length cF, .slice AI m.items.length cI, .slice AS m.seqs.length cS, .string m.pre] 89)).alloc (.cells #[.slice none 0 0, .int .i64 0, .int .i64 0, .slice none 0 0, .slice none 0 0, .slice none 0 0, .slice none 0 0, .string ⟨#[]⟩] 89) := ⟨_, rfl⟩
  have hP : PW w A cap m W := by
    have h1 : Blk W w.heap.size 89 #[.slice A m.p.length cap, .int .i64 m.at_, .int .i64 m.n, .slice AP m.parts.length cP, .slice AF m.flows.length cF, .slice AI m.items.length cI, .slice AS m.seqs.length cS, .string m.pre] := by rw [hW]; exact (Blk.new w _ _).alloc _
    have h2 : Blk W (w.heap.size + 1) 89 #[.slice none 0 0, .int .i64 0, .int .i64 0, .slice none 0 0, .slice none 0 0, .slice none 0 0, .slice none 0 0, .string ⟨#[]⟩] := by
      rw [hW]
      have := Blk.new (w.alloc (.cells #[.slice A m.p.length cap, .int .i64 m.at_, .int .i64 m.n, .slice AP m.parts.length cP, .slice AF m.flows.length cF, .slice AI m.items.length cI, .slice AS m.seqs.length cS, .string m.pre] 89)) 89 #[.slice none 0 0, .int .i64 0, .int .i64 0, .slice none 0 0, .slice none 0 0, .slice none 0 0, .slice none 0 0, .string ⟨#[]⟩]
      simpa using this
    have hb : Below w.heap.size w W := by rw [hW]; exact ((Below.refl _ _).alloc (Nat.le_refl _) _).alloc (by simp) _
    exact ⟨AP, cP, AF, cF, AI, cI, AS, cS, h1, h2, hC.below hb, hb⟩
  have HPW := Lib.hid hP
  have HW := Lib.hid hW.symm
  have hn2 : 2 ≤ n := by omega
  have hn4 : n ≤ 4 := by omega
  have hnn : (m.parts.length : Int) = (n : Int) := by omega
  clear hC hs hP hW ha hb hq hr hq8 hr8 hq7 hq3 hlp hn hms hbk hgm
  go_enter Try.func77, Try.ntmps77
  go_upto_region 5 with fail
  rw [HW.out]
  rw [f2, f5]
  have F2 := Lib.hid f2
  have F4 := Lib.hid f4
  have F5 := Lib.hid f5
  have F6 := Lib.hid f6
  have F7 := Lib.hid f7
  have F8 := Lib.hid f8
  have F9 := Lib.hid f9
  have F10 := Lib.hid f10
  have HNN := Lib.hid hnn
  clear f1 f2 f3 f4 f5 f6 f7 f8 f9 f10 hnn
  go_upto_region 5 with fail
  go_cut [9] (fun v wx => v = .string (gnameF m chT) ∧ PW w A cap (gnamedF m) wx)
  case first =>
    obtain ⟨AP, cP, AF, cF, AI, cI, AS, cS, hB, hR, hC, hW⟩ := HPW.out
    have y0 : W.cell? ⟨w.heap.size, 0, none⟩ = some (.slice A m.p.length cap) := hB.cell 0
    have y1 : W.cell? ⟨w.heap.size, 1, none⟩ = some (.int .i64 m.at_) := hB.cell 1
    have y2 : W.cell? ⟨w.heap.size, 2, none⟩ = some (.int .i64 m.n) := hB.cell 2
    have y3 : W.cell? ⟨w.heap.size, 3, none⟩ = some (.slice AP m.parts.length cP) := hB.cell 3
    have y4 : W.cell? ⟨w.heap.size, 4, none⟩ = some (.slice AF m.flows.length cF) := hB.cell 4
    have y5 : W.cell? ⟨w.heap.size, 5, none⟩ = some (.slice AI m.items.length cI) := hB.cell 5
    have y6 : W.cell? ⟨w.heap.size, 6, none⟩ = some (.slice AS m.seqs.length cS) := hB.cell 6
    have y7 : W.cell? ⟨w.heap.size, 7, none⟩ = some (.string m.pre) := hB.cell 7
    have HMK := Lib.hid (show MkR W A cap m _ from ⟨AP, cP, AF, cF, AI, cI, AS, cS, rfl, hC⟩)
    have HBL := Lib.hid hW
    have hgl := hB.lt
    clear hR hC hW
    go_wp2_with fail
    refine (name_any HMK.out (HS.out.mono (by decide)) chT (by decide)).mono ?_
    rintro e w1 ⟨c1, rfl, hM1, hb1⟩
    obtain ⟨AP1, cP1, AF1, cF1, AI1, cI1, AS1, cS1, rfl, hC1⟩ := hM1
    have HP1 := Lib.hid (HPW.out.put (m' := gnamedF m) hb1 hC1)
    have hB2 := hB.below hb1 hB.lt
    have z0 : w1.cell? ⟨w.heap.size, 0, none⟩ = some (.slice A m.p.length cap) := hB2.cell 0
    have z1 : w1.cell? ⟨w.heap.size, 1, none⟩ = some (.int .i64 m.at_) := hB2.cell 1
    have z2 : w1.cell? ⟨w.heap.size, 2, none⟩ = some (.int .i64 m.n) := hB2.cell 2
    have z3 : w1.cell? ⟨w.heap.size, 3, none⟩ = some (.slice AP m.parts.length cP) := hB2.cell 3
    have z4 : w1.cell? ⟨w.heap.size, 4, none⟩ = some (.slice AF m.flows.length cF) := hB2.cell 4
    have z5 : w1.cell? ⟨w.heap.size, 5, none⟩ = some (.slice AI m.items.length cI) := hB2.cell 5
    have z6 : w1.cell? ⟨w.heap.size, 6, none⟩ = some (.slice AS m.seqs.length cS) := hB2.cell 6
    have z7 : w1.cell? ⟨w.heap.size, 7, none⟩ = some (.string m.pre) := hB2.cell 7
    have q0 := hB2.frozen 0
    have q1 := hB2.frozen 1
    have q2 := hB2.frozen 2
    have q3 := hB2.frozen 3
    have q4 := hB2.frozen 4
    have q5 := hB2.frozen 5
    have q6 := hB2.frozen 6
    have q7 := hB2.frozen 7
    have hgl1 := hB2.lt
    clear y0 y1 y2 y3 y4 y5 y6 y7 hB hB2 hb1 hC1
    go_wp2_with fail
    go_meet
    case rel => exact ⟨rfl, HP1.out⟩
  case rest =>
    obtain ⟨rfl, hP⟩ := hcut
    obtain ⟨V1, rfl⟩ : ∃ V, V = wc := ⟨_, rfl⟩
    have HPV1 := Lib.hid hP
    clear hP HPW
    go_upto_region 6 with fail
    go_cut [10] (fun v wx => v = .string (gnameF (gnamedF m) chF) ∧ PW w A cap (gnamedF (gnamedF m)) wx)
    case first =>
      obtain ⟨AP, cP, AF, cF, AI, cI, AS, cS, hB, hR, hC, hW⟩ := HPV1.out
      have y0 : V1.cell? ⟨w.heap.size, 0, none⟩ = some (.slice A (gnamedF m).p.length cap) := hB.cell 0
      have y1 : V1.cell? ⟨w.heap.size, 1, none⟩ = some (.int .i64 (gnamedF m).at_) := hB.cell 1
      have y2 : V1.cell? ⟨w.heap.size, 2, none⟩ = some (.int .i64 (gnamedF m).n) := hB.cell 2
      have y3 : V1.cell? ⟨w.heap.size, 3, none⟩ = some (.slice AP (gnamedF m).parts.length cP) := hB.cell 3
      have y4 : V1.cell? ⟨w.heap.size, 4, none⟩ = some (.slice AF (gnamedF m).flows.length cF) := hB.cell 4
      have y5 : V1.cell? ⟨w.heap.size, 5, none⟩ = some (.slice AI (gnamedF m).items.length cI) := hB.cell 5
      have y6 : V1.cell? ⟨w.heap.size, 6, none⟩ = some (.slice AS (gnamedF m).seqs.length cS) := hB.cell 6
      have y7 : V1.cell? ⟨w.heap.size, 7, none⟩ = some (.string (gnamedF m).pre) := hB.cell 7
      have HMK := Lib.hid (show MkR V1 A cap (gnamedF m) _ from ⟨AP, cP, AF, cF, AI, cI, AS, cS, rfl, hC⟩)
      have HBL := Lib.hid hW
      have hgl := hB.lt
      clear hR hC hW
      go_wp2_with fail
      refine (name_any HMK.out (HS.out.named.mono (by decide)) chF (by decide)).mono ?_
      rintro e w1 ⟨c1, rfl, hM1, hb1⟩
      obtain ⟨AP1, cP1, AF1, cF1, AI1, cI1, AS1, cS1, rfl, hC1⟩ := hM1
      have HP1 := Lib.hid (HPV1.out.put (m' := gnamedF (gnamedF m)) hb1 hC1)
      have hB2 := hB.below hb1 hB.lt
      have z0 : w1.cell? ⟨w.heap.size, 0, none⟩ = some (.slice A (gnamedF m).p.length cap) := hB2.cell 0
      have z1 : w1.cell? ⟨w.heap.size, 1, none⟩ = some (.int .i64 (gnamedF m).at_) := hB2.cell 1
      have z2 : w1.cell? ⟨w.heap.size, 2, none⟩ = some (.int .i64 (gnamedF m).n) := hB2.cell 2
      have z3 : w1.cell? ⟨w.heap.size, 3, none⟩ = some (.slice AP (gnamedF m).parts.length cP) := hB2.cell 3
      have z4 : w1.cell? ⟨w.heap.size, 4, none⟩ = some (.slice AF (gnamedF m).flows.length cF) := hB2.cell 4
      have z5 : w1.cell? ⟨w.heap.size, 5, none⟩ = some (.slice AI (gnamedF m).items.length cI) := hB2.cell 5
      have z6 : w1.cell? ⟨w.heap.size, 6, none⟩ = some (.slice AS (gnamedF m).seqs.length cS) := hB2.cell 6
      have z7 : w1.cell? ⟨w.heap.size, 7, none⟩ = some (.string (gnamedF m).pre) := hB2.cell 7
      have q0 := hB2.frozen 0
      have q1 := hB2.frozen 1
      have q2 := hB2.frozen 2
      have q3 := hB2.frozen 3
      have q4 := hB2.frozen 4
      have q5 := hB2.frozen 5
      have q6 := hB2.frozen 6
      have q7 := hB2.frozen 7
      have hgl1 := hB2.lt
      clear y0 y1 y2 y3 y4 y5 y6 y7 hB hB2 hb1 hC1
      go_wp2_with fail
      go_meet
      case rel => exact ⟨rfl, HP1.out⟩
    case rest =>
      obtain ⟨rfl, hP⟩ := hcut
      obtain ⟨V2, rfl⟩ : ∃ V, V = wc := ⟨_, rfl⟩
      have HPV2 := Lib.hid hP
      clear hP HPV1
      obtain ⟨m2, hm2⟩ : ∃ m2, m2 = gnamedF (gnamedF m) := ⟨_, rfl⟩
      obtain ⟨t, ht⟩ : ∃ t, t = gnameF m chT := ⟨_, rfl⟩
      obtain ⟨f, hf⟩ : ∃ f, f = gnameF (gnamedF m) chF := ⟨_, rfl⟩
      obtain ⟨pa, hpa⟩ : ∃ pa, pa = gpart m a := ⟨_, rfl⟩
      obtain ⟨pb, hpb⟩ : ∃ pb, pb = gpart m b := ⟨_, rfl⟩
      rw [← hm2] at HPV2
      rw [← ht, ← hf]
      have hpp : m2.parts = m.parts := by rw [hm2]; rfl
      obtain ⟨AP, cP, AF, cF, AI, cI, AS, cS, hB, hR, hC, hWb⟩ := HPV2.out
      have hln : m2.parts.length = n := by rw [hpp, HN.out]
      obtain ⟨bp, hAP, hbp, hca, hbm⟩ := part_at hC.parts a (by omega)
      obtain ⟨bq, hAQ, _, hcb, _⟩ := part_at hC.parts b (by omega)
      have hbq : bq = bp := by rw [hAP] at hAQ; injection hAQ with e; injection e with e; exact e.symm
      rw [hbq] at hcb
      rw [show (m2.parts.getD a ⟨⟨#[]⟩, ⟨#[]⟩⟩).id = pa by rw [hpa, hpp]; rfl] at hca
      rw [show (m2.parts.getD b ⟨⟨#[]⟩, ⟨#[]⟩⟩).id = pb by rw [hpb, hpp]; rfl] at hcb
      have HM2 := Lib.hid hm2
      have HT := Lib.hid ht
      have HF := Lib.hid hf
      have HPA := Lib.hid hpa
      have HPB := Lib.hid hpb
      have hbpw := hbm _ _ hB
      have HB := Lib.hid hB
      have HR0 := Lib.hid hR
      have HC := Lib.hid hC
      have HCA := Lib.hid hca
      have HCB := Lib.hid hcb
      have HAP := Lib.hid hAP
      have HWb := Lib.hid hWb
      have hlnI : (m2.parts.length : Int) = (n : Int) := by omega
      have haI : (a : Int) < (n : Int) := by omega
      have hbI : (b : Int) < (n : Int) := by omega
      have ha0 : (0 : Int) ≤ (a : Int) := by omega
      have hb0 : (0 : Int) ≤ (b : Int) := by omega
      have hszV := hWb.size
      have hR2 := hR.lt
      have b0 := (Below.refl V2.heap.size V2).drew
      subst hAP
      clear hm2 ht hf hpa hpb hpp hB hR hC hWb hca hcb hAQ hbq hln
      have HLI := Lib.hid hlnI
      have HAI := Lib.hid haI
      have HBI := Lib.hid hbI
      clear hlnI haI hbI
      go_upto_region 7 with fail
      go_cut [12] (fun v wx => Built w V2 t pa pb f lp v wx)
      case first =>
        refine seven HB HCA HCB hbp HLI HAI HBI hx hn4 han hbn hq70 F8 F9 hszV hR2 (by rfl) ?_
        intro v wx hbuilt n42 n43 n44 n45 n46 n47 n48 n49 n50 n51 n52 n53 n54 n55 n56 n57 n58 n59 n60 n61 n62 n63 n64 n65 n66 n67 n68
        have HBT := Lib.hid hbuilt
        clear hbuilt
        dsimp only
        go_step
        go_meet
        case rel => exact HBT.out
      case rest =>
        obtain ⟨gI, gP, gF, rfl, hTI, hgF, hgI, hz3, hkF, hbV⟩ := hcut
        obtain ⟨V3, rfl⟩ : ∃ V, V = wc := ⟨_, rfl⟩
        obtain ⟨L1, hL1⟩ : ∃ L, L = m2.flows ++ [(⟨f, pa, pb, ms⟩ : FlowD)] := ⟨_, rfl⟩
        have hL1n : L1.length = m2.flows.length + 1 := by rw [hL1]; simp
        have hT3 : TW w V2 A cap m2 (some ⟨bp, 0, none⟩) cP AF cF AI cI AS cS V3 := ⟨HB.out.below hbV HB.out.lt, HR0.out.below hbV HR0.out.lt, grown_below (below_grown _) hbV⟩
        have hC3 := HC.out.below hbV
        have hy3 : V3.cell? ⟨w.heap.size, 3, none⟩ = some (.slice (some ⟨bp, 0, none⟩) m2.parts.length cP) := hT3.main.cell 3
        have hy4 : V3.cell? ⟨w.heap.size, 4, none⟩ = some (.slice AF m2.flows.length cF) := hT3.main.cell 4
        have hyA := (hbV.cell (p := ⟨bp, a * 2, none⟩) hbp).trans HCA.out
        have hyB := (hbV.cell (p := ⟨bp, b * 2, none⟩) hbp).trans HCB.out
        obtain ⟨xs, hr, hl, h1⟩ := rd_reads hC3.flows
        have hfl : m2.flows.length ≤ 8000 := by rw [HM2.out]; exact HS.out.flows
        have hlB := hT3.main.lt
        have hbp3 : bp < V3.heap.size := by have := hbV.size; omega
        have HY3 := Lib.hid hy3
        have HY4 := Lib.hid hy4
        have HYA := Lib.hid hyA
        have HYB := Lib.hid hyB
        have HXR := Lib.hid hr
        have HXL := Lib.hid hl
        have HX1 := Lib.hid h1
        have HL1 := Lib.hid hL1
        have HL1N := Lib.hid hL1n
        have HT3 := Lib.hid hT3
        have HTI := Lib.hid hTI
        clear hL1 hL1n hT3 hC3 hy3 hy4 hyA hyB hr hl h1 hTI hkF hbV
        go_upto_region 8 with fail
        go_cut [13] (fun v wx => ∃ A8 c8, v = .slice A8 L1.length c8 ∧ FL V2 L1 A8 c8 wx ∧ Below V3.heap.size V3 wx)
        case first =>
          have f2 := F2.out
          have f5 := F5.out
          have f6 := F6.out
          have f7 := F7.out
          have hlnI := HLI.out
          have haI := HAI.out
          have hbI := HBI.out
          have hr8I : (r8 : Int) < 3 := by omega
          have hr80 : (0 : Int) ≤ (r8 : Int) := by omega
          have d0 := (Below.refl V3.heap.size V3).drew
          refine wp_region_HT 27 (fun U => Below V3.heap.size V3 U) (by kernel_rfl) (by decide) (d0) (fun hHeld => ?_)
          refine ht_take 1 (v := ?ve_1) rfl (by kernel_rfl) (fun _ _ _ h => h) (Or.inl ⟨by rfl, ?he_1⟩) hHeld ?re_1
          case he_1 => ((intro U hSw; have y3 : U.cell? ⟨w.heap.size, 3, none⟩ = some (.slice (some ⟨bp, 0, none⟩) m2.parts.length cP) := (hSw.cell (p := ⟨w.heap.size, 3, none⟩) hlB).trans HY3.out; have y4 : U.cell? ⟨w.heap.size, 4, none⟩ = some (.slice AF m2.flows.length cF) := (hSw.cell (p := ⟨w.heap.size, 4, none⟩) hlB).trans HY4.out; have yA : U.cell? ⟨bp, a * 2, none⟩ = some (.string pa) := (hSw.cell (p := ⟨bp, a * 2, none⟩) hbp3).trans HYA.out; have yB : U.cell? ⟨bp, b * 2, none⟩ = some (.string pb) := (hSw.cell (p := ⟨bp, b * 2, none⟩) hbp3).trans HYB.out; go_simp); (try (with_reducible rfl)))
          try simp only [Act.put, List.setIfInBounds_toArray, List.set_cons_zero, List.set_cons_succ]
          refine ht_take 2 (v := ?ve_2) rfl (by kernel_rfl) (fun _ _ _ h => h) (Or.inl ⟨by rfl, ?he_2⟩) hHeld ?re_2
          case he_2 => ((intro U hSw; have y3 : U.cell? ⟨w.heap.size, 3, none⟩ = some (.slice (some ⟨bp, 0, none⟩) m2.parts.length cP) := (hSw.cell (p := ⟨w.heap.size, 3, none⟩) hlB).trans HY3.out; have y4 : U.cell? ⟨w.heap.size, 4, none⟩ = some (.slice AF m2.flows.length cF) := (hSw.cell (p := ⟨w.heap.size, 4, none⟩) hlB).trans HY4.out; have yA : U.cell? ⟨bp, a * 2, none⟩ = some (.string pa) := (hSw.cell (p := ⟨bp, a * 2, none⟩) hbp3).trans HYA.out; have yB : U.cell? ⟨bp, b * 2, none⟩ = some (.string pb) := (hSw.cell (p := ⟨bp, b * 2, none⟩) hbp3).trans HYB.out; go_simp); (try (with_reducible rfl)))
          try simp only [Act.put, List.setIfInBounds_toArray, List.set_cons_zero, List.set_cons_succ]
          refine ht_take 4 (v := ?ve_3) rfl (by kernel_rfl) (fun _ _ _ h => h) (Or.inl ⟨by rfl, ?he_3⟩) hHeld ?re_3
          case he_3 => ((intro U hSw; have y3 : U.cell? ⟨w.heap.size, 3, none⟩ = some (.slice (some ⟨bp, 0, none⟩) m2.parts.length cP) := (hSw.cell (p := ⟨w.heap.size, 3, none⟩) hlB).trans HY3.out; have y4 : U.cell? ⟨w.heap.size, 4, none⟩ = some (.slice AF m2.flows.length cF) := (hSw.cell (p := ⟨w.heap.size, 4, none⟩) hlB).trans HY4.out; have yA : U.cell? ⟨bp, a * 2, none⟩ = some (.string pa) := (hSw.cell (p := ⟨bp, a * 2, none⟩) hbp3).trans HYA.out; have yB : U.cell? ⟨bp, b * 2, none⟩ = some (.string pb) := (hSw.cell (p := ⟨bp, b * 2, none⟩) hbp3).trans HYB.out; go_simp); (try (with_reducible rfl)))
          try simp only [Act.put, List.setIfInBounds_toArray, List.set_cons_zero, List.set_cons_succ]
          refine ht_take 5 (v := ?ve_4) rfl (by kernel_rfl) (fun _ _ _ h => h) (Or.inl ⟨by rfl, ?he_4⟩) hHeld ?re_4
          case he_4 => ((intro U hSw; have y3 : U.cell? ⟨w.heap.size, 3, none⟩ = some (.slice (some ⟨bp, 0, none⟩) m2.parts.length cP) := (hSw.cell (p := ⟨w.heap.size, 3, none⟩) hlB).trans HY3.out; have y4 : U.cell? ⟨w.heap.size, 4, none⟩ = some (.slice AF m2.flows.length cF) := (hSw.cell (p := ⟨w.heap.size, 4, none⟩) hlB).trans HY4.out; have yA : U.cell? ⟨bp, a * 2, none⟩ = some (.string pa) := (hSw.cell (p := ⟨bp, a * 2, none⟩) hbp3).trans HYA.out; have yB : U.cell? ⟨bp, b * 2, none⟩ = some (.string pb) := (hSw.cell (p := ⟨bp, b * 2, none⟩) hbp3).trans HYB.out; go_simp); (try (with_reducible rfl)))
          try simp only [Act.put, List.setIfInBounds_toArray, List.set_cons_zero, List.set_cons_succ]
          refine ht_take 6 (v := ?ve_5) rfl (by kernel_rfl) (fun _ _ _ h => h) (Or.inl ⟨by rfl, ?he_5⟩) hHeld ?re_5
          case he_5 => ((intro U hSw; have y3 : U.cell? ⟨w.heap.size, 3, none⟩ = some (.slice (some ⟨bp, 0, none⟩) m2.parts.length cP) := (hSw.cell (p := ⟨w.heap.size, 3, none⟩) hlB).trans HY3.out; have y4 : U.cell? ⟨w.heap.size, 4, none⟩ = some (.slice AF m2.flows.length cF) := (hSw.cell (p := ⟨w.heap.size, 4, none⟩) hlB).trans HY4.out; have yA : U.cell? ⟨bp, a * 2, none⟩ = some (.string pa) := (hSw.cell (p := ⟨bp, a * 2, none⟩) hbp3).trans HYA.out; have yB : U.cell? ⟨bp, b * 2, none⟩ = some (.string pb) := (hSw.cell (p := ⟨bp, b * 2, none⟩) hbp3).trans HYB.out; go_simp); (try (with_reducible rfl)))
          try simp only [Act.put, List.setIfInBounds_toArray, List.set_cons_zero, List.set_cons_succ]
          refine ht_take 7 (v := ?ve_6) rfl (by kernel_rfl) (fun _ _ _ h => h) (Or.inl ⟨by rfl, ?he_6⟩) hHeld ?re_6
          case he_6 => ((intro U hSw; have y3 : U.cell? ⟨w.heap.size, 3, none⟩ = some (.slice (some ⟨bp, 0, none⟩) m2.parts.length cP) := (hSw.cell (p := ⟨w.heap.size, 3, none⟩) hlB).trans HY3.out; have y4 : U.cell? ⟨w.heap.size, 4, none⟩ = some (.slice AF m2.flows.length cF) := (hSw.cell (p := ⟨w.heap.size, 4, none⟩) hlB).trans HY4.out; have yA : U.cell? ⟨bp, a * 2, none⟩ = some (.string pa) := (hSw.cell (p := ⟨bp, a * 2, none⟩) hbp3).trans HYA.out; have yB : U.cell? ⟨bp, b * 2, none⟩ = some (.string pb) := (hSw.cell (p := ⟨bp, b * 2, none⟩) hbp3).trans HYB.out; go_simp); (try (with_reducible rfl)))
          try simp only [Act.put, List.setIfInBounds_toArray, List.set_cons_zero, List.set_cons_succ]
          refine ht_take 8 (v := ?ve_7) rfl (by kernel_rfl) (fun _ _ _ h => h) (Or.inl ⟨by rfl, ?he_7⟩) hHeld ?re_7
          case he_7 => ((intro U hSw; have y3 : U.cell? ⟨w.heap.size, 3, none⟩ = some (.slice (some ⟨bp, 0, none⟩) m2.parts.length cP) := (hSw.cell (p := ⟨w.heap.size, 3, none⟩) hlB).trans HY3.out; have y4 : U.cell? ⟨w.heap.size, 4, none⟩ = some (.slice AF m2.flows.length cF) := (hSw.cell (p := ⟨w.heap.size, 4, none⟩) hlB).trans HY4.out; have yA : U.cell? ⟨bp, a * 2, none⟩ = some (.string pa) := (hSw.cell (p := ⟨bp, a * 2, none⟩) hbp3).trans HYA.out; have yB : U.cell? ⟨bp, b * 2, none⟩ = some (.string pb) := (hSw.cell (p := ⟨bp, b * 2, none⟩) hbp3).trans HYB.out; go_simp); (try (with_reducible rfl)))
          try simp only [Act.put, List.setIfInBounds_toArray, List.set_cons_zero, List.set_cons_succ]
          refine ht_take 9 (v := ?ve_8) rfl (by kernel_rfl) (fun _ _ _ h => h) (Or.inl ⟨by rfl, ?he_8⟩) hHeld ?re_8
          case he_8 => ((intro U hSw; have y3 : U.cell? ⟨w.heap.size, 3, none⟩ = some (.slice (some ⟨bp, 0, none⟩) m2.parts.length cP) := (hSw.cell (p := ⟨w.heap.size, 3, none⟩) hlB).trans HY3.out; have y4 : U.cell? ⟨w.heap.size, 4, none⟩ = some (.slice AF m2.flows.length cF) := (hSw.cell (p := ⟨w.heap.size, 4, none⟩) hlB).trans HY4.out; have yA : U.cell? ⟨bp, a * 2, none⟩ = some (.string pa) := (hSw.cell (p := ⟨bp, a * 2, none⟩) hbp3).trans HYA.out; have yB : U.cell? ⟨bp, b * 2, none⟩ = some (.string pb) := (hSw.cell (p := ⟨bp, b * 2, none⟩) hbp3).trans HYB.out; go_simp); (try (with_reducible rfl)))
          try simp only [Act.put, List.setIfInBounds_toArray, List.set_cons_zero, List.set_cons_succ]
          refine ht_take 10 (v := ?ve_9) rfl (by kernel_rfl) (fun _ _ _ h => h) (Or.inl ⟨by rfl, ?he_9⟩) hHeld ?re_9
          case he_9 => ((intro U hSw; have y3 : U.cell? ⟨w.heap.size, 3, none⟩ = some (.slice (some ⟨bp, 0, none⟩) m2.parts.length cP) := (hSw.cell (p := ⟨w.heap.size, 3, none⟩) hlB).trans HY3.out; have y4 : U.cell? ⟨w.heap.size, 4, none⟩ = some (.slice AF m2.flows.length cF) := (hSw.cell (p := ⟨w.heap.size, 4, none⟩) hlB).trans HY4.out; have yA : U.cell? ⟨bp, a * 2, none⟩ = some (.string pa) := (hSw.cell (p := ⟨bp, a * 2, none⟩) hbp3).trans HYA.out; have yB : U.cell? ⟨bp, b * 2, none⟩ = some (.string pb) := (hSw.cell (p := ⟨bp, b * 2, none⟩) hbp3).trans HYB.out; go_simp); (try (with_reducible rfl)))
          try simp only [Act.put, List.setIfInBounds_toArray, List.set_cons_zero, List.set_cons_succ]
          refine ht_take 11 (v := ?ve_10) rfl (by kernel_rfl) (fun _ _ _ h => h) (Or.inl ⟨by rfl, ?he_10⟩) hHeld ?re_10
          case he_10 => ((intro U hSw; have y3 : U.cell? ⟨w.heap.size, 3, none⟩ = some (.slice (some ⟨bp, 0, none⟩) m2.parts.length cP) := (hSw.cell (p := ⟨w.heap.size, 3, none⟩) hlB).trans HY3.out; have y4 : U.cell? ⟨w.heap.size, 4, none⟩ = some (.slice AF m2.flows.length cF) := (hSw.cell (p := ⟨w.heap.size, 4, none⟩) hlB).trans HY4.out; have yA : U.cell? ⟨bp, a * 2, none⟩ = some (.string pa) := (hSw.cell (p := ⟨bp, a * 2, none⟩) hbp3).trans HYA.out; have yB : U.cell? ⟨bp, b * 2, none⟩ = some (.string pb) := (hSw.cell (p := ⟨bp, b * 2, none⟩) hbp3).trans HYB.out; go_simp); (try (with_reducible rfl)))
          try simp only [Act.put, List.setIfInBounds_toArray, List.set_cons_zero, List.set_cons_succ]
          refine ht_take 12 (v := ?ve_11) rfl (by kernel_rfl) (fun _ _ _ h => h) (Or.inl ⟨by rfl, ?he_11⟩) hHeld ?re_11
          case he_11 => ((intro U hSw; have y3 : U.cell? ⟨w.heap.size, 3, none⟩ = some (.slice (some ⟨bp, 0, none⟩) m2.parts.length cP) := (hSw.cell (p := ⟨w.heap.size, 3, none⟩) hlB).trans HY3.out; have y4 : U.cell? ⟨w.heap.size, 4, none⟩ = some (.slice AF m2.flows.length cF) := (hSw.cell (p := ⟨w.heap.size, 4, none⟩) hlB).trans HY4.out; have yA : U.cell? ⟨bp, a * 2, none⟩ = some (.string pa) := (hSw.cell (p := ⟨bp, a * 2, none⟩) hbp3).trans HYA.out; have yB : U.cell? ⟨bp, b * 2, none⟩ = some (.string pb) := (hSw.cell (p := ⟨bp, b * 2, none⟩) hbp3).trans HYB.out; go_simp); (try (with_reducible rfl)))
          try simp only [Act.put, List.setIfInBounds_toArray, List.set_cons_zero, List.set_cons_succ]
          refine ht_take 13 (v := ?ve_12) rfl (by kernel_rfl) (fun _ _ _ h => h) (Or.inl ⟨by rfl, ?he_12⟩) hHeld ?re_12
          case he_12 => ((intro U hSw; have y3 : U.cell? ⟨w.heap.size, 3, none⟩ = some (.slice (some ⟨bp, 0, none⟩) m2.parts.length cP) := (hSw.cell (p := ⟨w.heap.size, 3, none⟩) hlB).trans HY3.out; have y4 : U.cell? ⟨w.heap.size, 4, none⟩ = some (.slice AF m2.flows.length cF) := (hSw.cell (p := ⟨w.heap.size, 4, none⟩) hlB).trans HY4.out; have yA : U.cell? ⟨bp, a * 2, none⟩ = some (.string pa) := (hSw.cell (p := ⟨bp, a * 2, none⟩) hbp3).trans HYA.out; have yB : U.cell? ⟨bp, b * 2, none⟩ = some (.string pb) := (hSw.cell (p := ⟨bp, b * 2, none⟩) hbp3).trans HYB.out; go_simp); (try (with_reducible rfl)))
          try simp only [Act.put, List.setIfInBounds_toArray, List.set_cons_zero, List.set_cons_succ]
          refine ht_take 14 (v := ?ve_13) rfl (by kernel_rfl) (fun _ _ _ h => h) (Or.inl ⟨by rfl, ?he_13⟩) hHeld ?re_13
          case he_13 => ((intro U hSw; have y3 : U.cell? ⟨w.heap.size, 3, none⟩ = some (.slice (some ⟨bp, 0, none⟩) m2.parts.length cP) := (hSw.cell (p := ⟨w.heap.size, 3, none⟩) hlB).trans HY3.out; have y4 : U.cell? ⟨w.heap.size, 4, none⟩ = some (.slice AF m2.flows.length cF) := (hSw.cell (p := ⟨w.heap.size, 4, none⟩) hlB).trans HY4.out; have yA : U.cell? ⟨bp, a * 2, none⟩ = some (.string pa) := (hSw.cell (p := ⟨bp, a * 2, none⟩) hbp3).trans HYA.out; have yB : U.cell? ⟨bp, b * 2, none⟩ = some (.string pb) := (hSw.cell (p := ⟨bp, b * 2, none⟩) hbp3).trans HYB.out; go_simp); (try (with_reducible rfl)))
          try simp only [Act.put, List.setIfInBounds_toArray, List.set_cons_zero, List.set_cons_succ]
          refine ht_take 15 (v := ?ve_14) rfl (by kernel_rfl) (fun _ _ _ h => h) (Or.inl ⟨by rfl, ?he_14⟩) hHeld ?re_14
          case he_14 => ((intro U hSw; have y3 : U.cell? ⟨w.heap.size, 3, none⟩ = some (.slice (some ⟨bp, 0, none⟩) m2.parts.length cP) := (hSw.cell (p := ⟨w.heap.size, 3, none⟩) hlB).trans HY3.out; have y4 : U.cell? ⟨w.heap.size, 4, none⟩ = some (.slice AF m2.flows.length cF) := (hSw.cell (p := ⟨w.heap.size, 4, none⟩) hlB).trans HY4.out; have yA : U.cell? ⟨bp, a * 2, none⟩ = some (.string pa) := (hSw.cell (p := ⟨bp, a * 2, none⟩) hbp3).trans HYA.out; have yB : U.cell? ⟨bp, b * 2, none⟩ = some (.string pb) := (hSw.cell (p := ⟨bp, b * 2, none⟩) hbp3).trans HYB.out; go_simp); (try (with_reducible rfl)))
          try simp only [Act.put, List.setIfInBounds_toArray, List.set_cons_zero, List.set_cons_succ]
          refine ht_take 16 (v := ?ve_15) rfl (by kernel_rfl) (fun _ _ _ h => h) (Or.inl ⟨by rfl, ?he_15⟩) hHeld ?re_15
          case he_15 => ((intro U hSw; have y3 : U.cell? ⟨w.heap.size, 3, none⟩ = some (.slice (some ⟨bp, 0, none⟩) m2.parts.length cP) := (hSw.cell (p := ⟨w.heap.size, 3, none⟩) hlB).trans HY3.out; have y4 : U.cell? ⟨w.heap.size, 4, none⟩ = some (.slice AF m2.flows.length cF) := (hSw.cell (p := ⟨w.heap.size, 4, none⟩) hlB).trans HY4.out; have yA : U.cell? ⟨bp, a * 2, none⟩ = some (.string pa) := (hSw.cell (p := ⟨bp, a * 2, none⟩) hbp3).trans HYA.out; have yB : U.cell? ⟨bp, b * 2, none⟩ = some (.string pb) := (hSw.cell (p := ⟨bp, b * 2, none⟩) hbp3).trans HYB.out; go_simp); (try (with_reducible rfl)))
          try simp only [Act.put, List.setIfInBounds_toArray, List.set_cons_zero, List.set_cons_succ]
          refine ht_take 18 (v := ?ve_16) rfl (by kernel_rfl) (fun _ _ _ h => h) (Or.inl ⟨by rfl, ?he_16⟩) hHeld ?re_16
          case he_16 => ((intro U hSw; have y3 : U.cell? ⟨w.heap.size, 3, none⟩ = some (.slice (some ⟨bp, 0, none⟩) m2.parts.length cP) := (hSw.cell (p := ⟨w.heap.size, 3, none⟩) hlB).trans HY3.out; have y4 : U.cell? ⟨w.heap.size, 4, none⟩ = some (.slice AF m2.flows.length cF) := (hSw.cell (p := ⟨w.heap.size, 4, none⟩) hlB).trans HY4.out; have yA : U.cell? ⟨bp, a * 2, none⟩ = some (.string pa) := (hSw.cell (p := ⟨bp, a * 2, none⟩) hbp3).trans HYA.out; have yB : U.cell? ⟨bp, b * 2, none⟩ = some (.string pb) := (hSw.cell (p := ⟨bp, b * 2, none⟩) hbp3).trans HYB.out; go_simp); (try (with_reducible rfl)))
          try simp only [Act.put, List.setIfInBounds_toArray, List.set_cons_zero, List.set_cons_succ]
          refine ht_take 19 (v := ?ve_17) rfl (by kernel_rfl) (fun _ _ _ h => h) (Or.inl ⟨by rfl, ?he_17⟩) hHeld ?re_17
          case he_17 => ((intro U hSw; have y3 : U.cell? ⟨w.heap.size, 3, none⟩ = some (.slice (some ⟨bp, 0, none⟩) m2.parts.length cP) := (hSw.cell (p := ⟨w.heap.size, 3, none⟩) hlB).trans HY3.out; have y4 : U.cell? ⟨w.heap.size, 4, none⟩ = some (.slice AF m2.flows.length cF) := (hSw.cell (p := ⟨w.heap.size, 4, none⟩) hlB).trans HY4.out; have yA : U.cell? ⟨bp, a * 2, none⟩ = some (.string pa) := (hSw.cell (p := ⟨bp, a * 2, none⟩) hbp3).trans HYA.out; have yB : U.cell? ⟨bp, b * 2, none⟩ = some (.string pb) := (hSw.cell (p := ⟨bp, b * 2, none⟩) hbp3).trans HYB.out; go_simp); (try (with_reducible rfl)))
          try simp only [Act.put, List.setIfInBounds_toArray, List.set_cons_zero, List.set_cons_succ]
          refine ht_take 20 (v := ?ve_18) rfl (by kernel_rfl) (fun _ _ _ h => h) (Or.inl ⟨by rfl, ?he_18⟩) hHeld ?re_18
          case he_18 => ((intro U hSw; have y3 : U.cell? ⟨w.heap.size, 3, none⟩ = some (.slice (some ⟨bp, 0, none⟩) m2.parts.length cP) := (hSw.cell (p := ⟨w.heap.size, 3, none⟩) hlB).trans HY3.out; have y4 : U.cell? ⟨w.heap.size, 4, none⟩ = some (.slice AF m2.flows.length cF) := (hSw.cell (p := ⟨w.heap.size, 4, none⟩) hlB).trans HY4.out; have yA : U.cell? ⟨bp, a * 2, none⟩ = some (.string pa) := (hSw.cell (p := ⟨bp, a * 2, none⟩) hbp3).trans HYA.out; have yB : U.cell? ⟨bp, b * 2, none⟩ = some (.string pb) := (hSw.cell (p := ⟨bp, b * 2, none⟩) hbp3).trans HYB.out; go_simp); (try (with_reducible rfl)))
          try simp only [Act.put, List.setIfInBounds_toArray, List.set_cons_zero, List.set_cons_succ]
          refine ht_take 21 (v := ?ve_19) rfl (by kernel_rfl) (fun _ _ _ h => h) (Or.inl ⟨by rfl, ?he_19⟩) hHeld ?re_19
          case he_19 => ((intro U hSw; have y3 : U.cell? ⟨w.heap.size, 3, none⟩ = some (.slice (some ⟨bp, 0, none⟩) m2.parts.length cP) := (hSw.cell (p := ⟨w.heap.size, 3, none⟩) hlB).trans HY3.out; have y4 : U.cell? ⟨w.heap.size, 4, none⟩ = some (.slice AF m2.flows.length cF) := (hSw.cell (p := ⟨w.heap.size, 4, none⟩) hlB).trans HY4.out; have yA : U.cell? ⟨bp, a * 2, none⟩ = some (.string pa) := (hSw.cell (p := ⟨bp, a * 2, none⟩) hbp3).trans HYA.out; have yB : U.cell? ⟨bp, b * 2, none⟩ = some (.string pb) := (hSw.cell (p := ⟨bp, b * 2, none⟩) hbp3).trans HYB.out; go_simp); (try (with_reducible rfl)))
          try simp only [Act.put, List.setIfInBounds_toArray, List.set_cons_zero, List.set_cons_succ]
          refine wpHT_all [0, 17] (by kernel_rfl) ?_
          refine ht_cons (i := 0) rfl (fun K hK => ?_) (ht_cons (i := 17) rfl (fun K hK => ?_) (allHT.nil))
          · go_simp
            obtain ⟨gE, hgE⟩ : ∃ g, g = V3.heap.size := ⟨_, rfl⟩
            obtain ⟨T1, hT⟩ : ∃ T, T = (V3.drew).alloc (.cells #[] 40) := ⟨_, rfl⟩
            have d1 : Below V3.heap.size V3 T1 := by rw [hT]; exact d0.alloc d0.size (.cells #[] 40)
            have hE1 : T1.ownsRow V3.heap.size 40 4 (.slice (some ⟨gE, 0, none⟩) 0 0) 0 [] := by rw [hT, hgE]; exact World.ownsRow_lit (base := V3.heap.size) _ #[] 0 d0.size (by decide) rfl
            have hgE0 : V3.heap.size ≤ gE := by rw [hgE]; exact d0.size
            show K _ ((V3.drew).alloc (.cells #[] 40))
            rw [← hT, ← hgE]
            clear hT hgE
            refine hK.out _ _ (d1) (fun hHeld => ?_)
            clear hK K
            try simp only [Act.put, List.setIfInBounds_toArray, List.set_cons_zero, List.set_cons_succ]
            refine wpHT_all [3, 17] (by kernel_rfl) ?_
            refine ht_cons (i := 3) rfl (fun K hK => ?_) (ht_cons (i := 17) rfl (fun K hK => ?_) (allHT.nil))
            · refine step_append_any _ (by rfl) (.tmp 69) (.tmp 71) _ (by rfl) V3.heap.size 40 i0 _ 4 64 Try.underlying24 hi0 hz0 hz1 hz2 rfl (by omega) (.slice (some ⟨gE, 0, none⟩) 0 0) 0 [] (by rfl) hE1 _ AF m2.flows.length cF xs (by rfl) (HXR.out.below d1) HX1.out (by unfold maxLen; omega) (by omega) d1.size ?_
              intro v3 T2 hA2 hgrow _
              simp only [Nat.zero_add, List.nil_append] at hA2
              obtain ⟨A3, c3, rfl, _, _⟩ := own_slice hA2
              have d2 : Below V3.heap.size V3 T2 := d1.grown hgrow d1.size (fun j hj => by simp [Value.ownBlock] at hj; omega)
              clear hgrow
              refine hK.out _ _ (d2) (fun hHeld => ?_)
              clear hK K
              try simp only [Act.put, List.setIfInBounds_toArray, List.set_cons_zero, List.set_cons_succ]
              refine ht_one 17 rfl (by kernel_rfl) (fun K hK => ?_)
              go_simp
              obtain ⟨gM, hgM⟩ : ∃ g, g = T2.heap.size := ⟨_, rfl⟩
              obtain ⟨T3, hT⟩ : ∃ T, T = (T2).alloc (.cells #[.string ⟨#[109, 97]⟩, .string ⟨#[109, 98]⟩, .string ⟨#[109, 99]⟩] 9) := ⟨_, rfl⟩
              have d3 : Below V3.heap.size V3 T3 := by rw [hT]; exact d2.alloc d2.size (.cells #[.string ⟨#[109, 97]⟩, .string ⟨#[109, 98]⟩, .string ⟨#[109, 99]⟩] 9)
              have kM3 : Blk T3 gM 9 #[.string ⟨#[109, 97]⟩, .string ⟨#[109, 98]⟩, .string ⟨#[109, 99]⟩] := by rw [hT, hgM]; exact Blk.new _ _ _
              have hA3 : T3.ownsRow V3.heap.size 40 4 (.slice A3 m2.flows.length c3) m2.flows.length xs := by rw [hT]; exact hA2.alloc _
              show K _ ((T2).alloc (.cells #[.string ⟨#[109, 97]⟩, .string ⟨#[109, 98]⟩, .string ⟨#[109, 99]⟩] 9))
              rw [← hT, ← hgM]
              clear hT hgM
              refine hK.out _ _ (d3) (fun hHeld => ?_)
              clear hK K
              try simp only [Act.put, List.setIfInBounds_toArray, List.set_cons_zero, List.set_cons_succ]
              refine ht_take 22 (v := ?ve_20) rfl (by kernel_rfl) (fun _ _ _ h => h) (Or.inl ⟨by rfl, ?he_20⟩) hHeld ?re_20
              case he_20 => ((intro U hSw; have y3 : U.cell? ⟨w.heap.size, 3, none⟩ = some (.slice (some ⟨bp, 0, none⟩) m2.parts.length cP) := (hSw.cell (p := ⟨w.heap.size, 3, none⟩) hlB).trans HY3.out; have y4 : U.cell? ⟨w.heap.size, 4, none⟩ = some (.slice AF m2.flows.length cF) := (hSw.cell (p := ⟨w.heap.size, 4, none⟩) hlB).trans HY4.out; have yA : U.cell? ⟨bp, a * 2, none⟩ = some (.string pa) := (hSw.cell (p := ⟨bp, a * 2, none⟩) hbp3).trans HYA.out; have yB : U.cell? ⟨bp, b * 2, none⟩ = some (.string pb) := (hSw.cell (p := ⟨bp, b * 2, none⟩) hbp3).trans HYB.out; go_simp); (try (with_reducible rfl)))
              try simp only [Act.put, List.setIfInBounds_toArray, List.set_cons_zero, List.set_cons_succ]
              refine ht_one 23 rfl (by kernel_rfl) (fun K hK => ?_)
              have y9 : (T3).cell? ⟨gM, r8, none⟩ = some (.string ms) := (kM3.cell r8).trans HGM.out
              go_simp
              refine hK.out _ _ (d3) (fun hHeld => ?_)
              clear hK K
              try simp only [Act.put, List.setIfInBounds_toArray, List.set_cons_zero, List.set_cons_succ]
              refine ht_take 24 (v := ?ve_21) rfl (by kernel_rfl) (fun _ _ _ h => h) (Or.inl ⟨by rfl, ?he_21⟩) hHeld ?re_21
              case he_21 => ((intro U hSw; have y3 : U.cell? ⟨w.heap.size, 3, none⟩ = some (.slice (some ⟨bp, 0, none⟩) m2.parts.length cP) := (hSw.cell (p := ⟨w.heap.size, 3, none⟩) hlB).trans HY3.out; have y4 : U.cell? ⟨w.heap.size, 4, none⟩ = some (.slice AF m2.flows.length cF) := (hSw.cell (p := ⟨w.heap.size, 4, none⟩) hlB).trans HY4.out; have yA : U.cell? ⟨bp, a * 2, none⟩ = some (.string pa) := (hSw.cell (p := ⟨bp, a * 2, none⟩) hbp3).trans HYA.out; have yB : U.cell? ⟨bp, b * 2, none⟩ = some (.string pb) := (hSw.cell (p := ⟨bp, b * 2, none⟩) hbp3).trans HYB.out; go_simp); (try (with_reducible rfl)))
              try simp only [Act.put, List.setIfInBounds_toArray, List.set_cons_zero, List.set_cons_succ]
              refine ht_one 25 rfl (by kernel_rfl) (fun K hK => ?_)
              go_simp
              obtain ⟨gG, hgG⟩ : ∃ g, g = T3.heap.size := ⟨_, rfl⟩
              obtain ⟨T4, hT⟩ : ∃ T, T = (T3).alloc (.cells #[.string f, .string pa, .string pb, .string ms] 40) := ⟨_, rfl⟩
              have d4 : Below V3.heap.size V3 T4 := by rw [hT]; exact d3.alloc d3.size (.cells #[.string f, .string pa, .string pb, .string ms] 40)
              have kG4 : Blk T4 gG 40 #[.string f, .string pa, .string pb, .string ms] := by rw [hT, hgG]; exact Blk.new _ _ _
              have hA4 : T4.ownsRow V3.heap.size 40 4 (.slice A3 m2.flows.length c3) m2.flows.length xs := by rw [hT]; exact hA3.alloc _
              show K _ ((T3).alloc (.cells #[.string f, .string pa, .string pb, .string ms] 40))
              rw [← hT, ← hgG]
              clear hT hgG
              refine hK.out _ _ (d4) (fun hHeld => ?_)
              clear hK K
              try simp only [Act.put, List.setIfInBounds_toArray, List.set_cons_zero, List.set_cons_succ]
              refine ht_one 26 rfl (by kernel_rfl) (fun K hK => ?_)
              refine step_append_lies _ (by rfl) (.tmp 72) (.tmp 94) _ (by rfl) V3.heap.size 40 i0 _ 4 64 Try.underlying24 hi0 hz0 hz1 hz2 rfl (by omega) (.slice A3 m2.flows.length c3) m2.flows.length xs (by rfl) hA4 ⟨gG, 0, none⟩ 1 1 [.string f, .string pa, .string pb, .string ms] (by rfl) (by rfl) (World.news_of_block (cs := #[.string f, .string pa, .string pb, .string ms]) (t := 40) (fr := (0, 0)) kG4) (by simp [Value.oneCell']) (by omega) (by unfold maxLen; omega) (by omega) d4.size _ rfl ?_
              intro g6 cap6 T5 hown6 hgrow6 _ _
              have d5 : Below V3.heap.size V3 T5 := d4.grown hgrow6 d4.size (fun j hj => (hA4.lt j hj).1)
              clear hgrow6
              refine hK.out _ _ (d5) (fun hHeld => ?_)
              clear hK K
              try simp only [Act.put, List.setIfInBounds_toArray, List.set_cons_zero, List.set_cons_succ]
              refine ht_done (by kernel_rfl) rfl ?_
              go_wp2_with fail
              go_meet
              case rel => exact ⟨some ⟨g6, 0, none⟩, cap6, by rw [HL1N.out], by rw [HL1.out]; exact FL.of (x := ⟨f, pa, pb, ms⟩) hown6 hz3 (RdL.flat (flow_flat _) HXL.out), d5⟩
            · go_simp
              obtain ⟨gM, hgM⟩ : ∃ g, g = T1.heap.size := ⟨_, rfl⟩
              obtain ⟨T2, hT⟩ : ∃ T, T = (T1).alloc (.cells #[.string ⟨#[109, 97]⟩, .string ⟨#[109, 98]⟩, .string ⟨#[109, 99]⟩] 9) := ⟨_, rfl⟩
              have d2 : Below V3.heap.size V3 T2 := by rw [hT]; exact d1.alloc d1.size (.cells #[.string ⟨#[109, 97]⟩, .string ⟨#[109, 98]⟩, .string ⟨#[109, 99]⟩] 9)
              have kM2 : Blk T2 gM 9 #[.string ⟨#[109, 97]⟩, .string ⟨#[109, 98]⟩, .string ⟨#[109, 99]⟩] := by rw [hT, hgM]; exact Blk.new _ _ _
              have hE2 : T2.ownsRow V3.heap.size 40 4 (.slice (some ⟨gE, 0, none⟩) 0 0) 0 [] := by rw [hT]; exact hE1.alloc _
              have nME : gE < gM := by rw [hgM]; have := (hE1.lt gE rfl).2; exact this
              show K _ ((T1).alloc (.cells #[.string ⟨#[109, 97]⟩, .string ⟨#[109, 98]⟩, .string ⟨#[109, 99]⟩] 9))
              rw [← hT, ← hgM]
              clear hT hgM
              refine hK.out _ _ (d2) (fun hHeld => ?_)
              clear hK K
              try simp only [Act.put, List.setIfInBounds_toArray, List.set_cons_zero, List.set_cons_succ]
              refine ht_take 22 (v := ?ve_22) rfl (by kernel_rfl) (fun _ _ _ h => h) (Or.inl ⟨by rfl, ?he_22⟩) hHeld ?re_22
              case he_22 => ((intro U hSw; have y3 : U.cell? ⟨w.heap.size, 3, none⟩ = some (.slice (some ⟨bp, 0, none⟩) m2.parts.length cP) := (hSw.cell (p := ⟨w.heap.size, 3, none⟩) hlB).trans HY3.out; have y4 : U.cell? ⟨w.heap.size, 4, none⟩ = some (.slice AF m2.flows.length cF) := (hSw.cell (p := ⟨w.heap.size, 4, none⟩) hlB).trans HY4.out; have yA : U.cell? ⟨bp, a * 2, none⟩ = some (.string pa) := (hSw.cell (p := ⟨bp, a * 2, none⟩) hbp3).trans HYA.out; have yB : U.cell? ⟨bp, b * 2, none⟩ = some (.string pb) := (hSw.cell (p := ⟨bp, b * 2, none⟩) hbp3).trans HYB.out; go_simp); (try (with_reducible rfl)))
              try simp only [Act.put, List.setIfInBounds_toArray, List.set_cons_zero, List.set_cons_succ]
              refine wpHT_all [3, 23] (by kernel_rfl) ?_
              refine ht_cons (i := 3) rfl (fun K hK => ?_) (ht_cons (i := 23) rfl (fun K hK => ?_) (allHT.nil))
              · refine step_append_any _ (by rfl) (.tmp 69) (.tmp 71) _ (by rfl) V3.heap.size 40 i0 _ 4 64 Try.underlying24 hi0 hz0 hz1 hz2 rfl (by omega) (.slice (some ⟨gE, 0, none⟩) 0 0) 0 [] (by rfl) hE2 _ AF m2.flows.length cF xs (by rfl) (HXR.out.below d2) HX1.out (by unfold maxLen; omega) (by omega) d2.size ?_
                intro v3 T3 hA3 hgrow _
                simp only [Nat.zero_add, List.nil_append] at hA3
                obtain ⟨A3, c3, rfl, _, _⟩ := own_slice hA3
                have d3 : Below V3.heap.size V3 T3 := d2.grown hgrow d2.size (fun j hj => by simp [Value.ownBlock] at hj; omega)
                have kM3 := kM2.grown hgrow (by simp [Value.ownBlock]; omega)
                clear hgrow
                refine hK.out _ _ (d3) (fun hHeld => ?_)
                clear hK K
                try simp only [Act.put, List.setIfInBounds_toArray, List.set_cons_zero, List.set_cons_succ]
                refine ht_one 23 rfl (by kernel_rfl) (fun K hK => ?_)
                have y9 : (T3).cell? ⟨gM, r8, none⟩ = some (.string ms) := (kM3.cell r8).trans HGM.out
                go_simp
                refine hK.out _ _ (d3) (fun hHeld => ?_)
                clear hK K
                try simp only [Act.put, List.setIfInBounds_toArray, List.set_cons_zero, List.set_cons_succ]
                refine ht_take 24 (v := ?ve_23) rfl (by kernel_rfl) (fun _ _ _ h => h) (Or.inl ⟨by rfl, ?he_23⟩) hHeld ?re_23
                case he_23 => ((intro U hSw; have y3 : U.cell? ⟨w.heap.size, 3, none⟩ = some (.slice (some ⟨bp, 0, none⟩) m2.parts.length cP) := (hSw.cell (p := ⟨w.heap.size, 3, none⟩) hlB).trans HY3.out; have y4 : U.cell? ⟨w.heap.size, 4, none⟩ = some (.slice AF m2.flows.length cF) := (hSw.cell (p := ⟨w.heap.size, 4, none⟩) hlB).trans HY4.out; have yA : U.cell? ⟨bp, a * 2, none⟩ = some (.string pa) := (hSw.cell (p := ⟨bp, a * 2, none⟩) hbp3).trans HYA.out; have yB : U.cell? ⟨bp, b * 2, none⟩ = some (.string pb) := (hSw.cell (p := ⟨bp, b * 2, none⟩) hbp3).trans HYB.out; go_simp); (try (with_reducible rfl)))
                try simp only [Act.put, List.setIfInBounds_toArray, List.set_cons_zero, List.set_cons_succ]
                refine ht_one 25 rfl (by kernel_rfl) (fun K hK => ?_)
                go_simp
                obtain ⟨gG, hgG⟩ : ∃ g, g = T3.heap.size := ⟨_, rfl⟩
                obtain ⟨T4, hT⟩ : ∃ T, T = (T3).alloc (.cells #[.string f, .string pa, .string pb, .string ms] 40) := ⟨_, rfl⟩
                have d4 : Below V3.heap.size V3 T4 := by rw [hT]; exact d3.alloc d3.size (.cells #[.string f, .string pa, .string pb, .string ms] 40)
                have kG4 : Blk T4 gG 40 #[.string f, .string pa, .string pb, .string ms] := by rw [hT, hgG]; exact Blk.new _ _ _
                have hA4 : T4.ownsRow V3.heap.size 40 4 (.slice A3 m2.flows.length c3) m2.flows.length xs := by rw [hT]; exact hA3.alloc _
                show K _ ((T3).alloc (.cells #[.string f, .string pa, .string pb, .string ms] 40))
                rw [← hT, ← hgG]
                clear hT hgG
                refine hK.out _ _ (d4) (fun hHeld => ?_)
                clear hK K
                try simp only [Act.put, List.setIfInBounds_toArray, List.set_cons_zero, List.set_cons_succ]
                refine ht_one 26 rfl (by kernel_rfl) (fun K hK => ?_)
                refine step_append_lies _ (by rfl) (.tmp 72) (.tmp 94) _ (by rfl) V3.heap.size 40 i0 _ 4 64 Try.underlying24 hi0 hz0 hz1 hz2 rfl (by omega) (.slice A3 m2.flows.length c3) m2.flows.length xs (by rfl) hA4 ⟨gG, 0, none⟩ 1 1 [.string f, .string pa, .string pb, .string ms] (by rfl) (by rfl) (World.news_of_block (cs := #[.string f, .string pa, .string pb, .string ms]) (t := 40) (fr := (0, 0)) kG4) (by simp [Value.oneCell']) (by omega) (by unfold maxLen; omega) (by omega) d4.size _ rfl ?_
                intro g6 cap6 T5 hown6 hgrow6 _ _
                have d5 : Below V3.heap.size V3 T5 := d4.grown hgrow6 d4.size (fun j hj => (hA4.lt j hj).1)
                clear hgrow6
                refine hK.out _ _ (d5) (fun hHeld => ?_)
                clear hK K
                try simp only [Act.put, List.setIfInBounds_toArray, List.set_cons_zero, List.set_cons_succ]
                refine ht_done (by kernel_rfl) rfl ?_
                go_wp2_with fail
                go_meet
                case rel => exact ⟨some ⟨g6, 0, none⟩, cap6, by rw [HL1N.out], by rw [HL1.out]; exact FL.of (x := ⟨f, pa, pb, ms⟩) hown6 hz3 (RdL.flat (flow_flat _) HXL.out), d5⟩
              · have y9 : (T2).cell? ⟨gM, r8, none⟩ = some (.string ms) := (kM2.cell r8).trans HGM.out
                go_simp
                refine hK.out _ _ (d2) (fun hHeld => ?_)
                clear hK K
                try simp only [Act.put, List.setIfInBounds_toArray, List.set_cons_zero, List.set_cons_succ]
                refine ht_take 24 (v := ?ve_24) rfl (by kernel_rfl) (fun _ _ _ h => h) (Or.inl ⟨by rfl, ?he_24⟩) hHeld ?re_24
                case he_24 => ((intro U hSw; have y3 : U.cell? ⟨w.heap.size, 3, none⟩ = some (.slice (some ⟨bp, 0, none⟩) m2.parts.length cP) := (hSw.cell (p := ⟨w.heap.size, 3, none⟩) hlB).trans HY3.out; have y4 : U.cell? ⟨w.heap.size, 4, none⟩ = some (.slice AF m2.flows.length cF) := (hSw.cell (p := ⟨w.heap.size, 4, none⟩) hlB).trans HY4.out; have yA : U.cell? ⟨bp, a * 2, none⟩ = some (.string pa) := (hSw.cell (p := ⟨bp, a * 2, none⟩) hbp3).trans HYA.out; have yB : U.cell? ⟨bp, b * 2, none⟩ = some (.string pb) := (hSw.cell (p := ⟨bp, b * 2, none⟩) hbp3).trans HYB.out; go_simp); (try (with_reducible rfl)))
                try simp only [Act.put, List.setIfInBounds_toArray, List.set_cons_zero, List.set_cons_succ]
                refine wpHT_all [3, 25] (by kernel_rfl) ?_
                refine ht_cons (i := 3) rfl (fun K hK => ?_) (ht_cons (i := 25) rfl (fun K hK => ?_) (allHT.nil))
                · refine step_append_any _ (by rfl) (.tmp 69) (.tmp 71) _ (by rfl) V3.heap.size 40 i0 _ 4 64 Try.underlying24 hi0 hz0 hz1 hz2 rfl (by omega) (.slice (some ⟨gE, 0, none⟩) 0 0) 0 [] (by rfl) hE2 _ AF m2.flows.length cF xs (by rfl) (HXR.out.below d2) HX1.out (by unfold maxLen; omega) (by omega) d2.size ?_
                  intro v3 T3 hA3 hgrow _
                  simp only [Nat.zero_add, List.nil_append] at hA3
                  obtain ⟨A3, c3, rfl, _, _⟩ := own_slice hA3
                  have d3 : Below V3.heap.size V3 T3 := d2.grown hgrow d2.size (fun j hj => by simp [Value.ownBlock] at hj; omega)
                  clear hgrow
                  refine hK.out _ _ (d3) (fun hHeld => ?_)
                  clear hK K
                  try simp only [Act.put, List.setIfInBounds_toArray, List.set_cons_zero, List.set_cons_succ]
                  refine ht_one 25 rfl (by kernel_rfl) (fun K hK => ?_)
                  go_simp
                  obtain ⟨gG, hgG⟩ : ∃ g, g = T3.heap.size := ⟨_, rfl⟩
                  obtain ⟨T4, hT⟩ : ∃ T, T = (T3).alloc (.cells #[.string f, .string pa, .string pb, .string ms] 40) := ⟨_, rfl⟩
                  have d4 : Below V3.heap.size V3 T4 := by rw [hT]; exact d3.alloc d3.size (.cells #[.string f, .string pa, .string pb, .string ms] 40)
                  have kG4 : Blk T4 gG 40 #[.string f, .string pa, .string pb, .string ms] := by rw [hT, hgG]; exact Blk.new _ _ _
                  have hA4 : T4.ownsRow V3.heap.size 40 4 (.slice A3 m2.flows.length c3) m2.flows.length xs := by rw [hT]; exact hA3.alloc _
                  show K _ ((T3).alloc (.cells #[.string f, .string pa, .string pb, .string ms] 40))
                  rw [← hT, ← hgG]
                  clear hT hgG
                  refine hK.out _ _ (d4) (fun hHeld => ?_)
                  clear hK K
                  try simp only [Act.put, List.setIfInBounds_toArray, List.set_cons_zero, List.set_cons_succ]
                  refine ht_one 26 rfl (by kernel_rfl) (fun K hK => ?_)
                  refine step_append_lies _ (by rfl) (.tmp 72) (.tmp 94) _ (by rfl) V3.heap.size 40 i0 _ 4 64 Try.underlying24 hi0 hz0 hz1 hz2 rfl (by omega) (.slice A3 m2.flows.length c3) m2.flows.length xs (by rfl) hA4 ⟨gG, 0, none⟩ 1 1 [.string f, .string pa, .string pb, .string ms] (by rfl) (by rfl) (World.news_of_block (cs := #[.string f, .string pa, .string pb, .string ms]) (t := 40) (fr := (0, 0)) kG4) (by simp [Value.oneCell']) (by omega) (by unfold maxLen; omega) (by omega) d4.size _ rfl ?_
                  intro g6 cap6 T5 hown6 hgrow6 _ _
                  have d5 : Below V3.heap.size V3 T5 := d4.grown hgrow6 d4.size (fun j hj => (hA4.lt j hj).1)
                  clear hgrow6
                  refine hK.out _ _ (d5) (fun hHeld => ?_)
                  clear hK K
                  try simp only [Act.put, List.setIfInBounds_toArray, List.set_cons_zero, List.set_cons_succ]
                  refine ht_done (by kernel_rfl) rfl ?_
                  go_wp2_with fail
                  go_meet
                  case rel => exact ⟨some ⟨g6, 0, none⟩, cap6, by rw [HL1N.out], by rw [HL1.out]; exact FL.of (x := ⟨f, pa, pb, ms⟩) hown6 hz3 (RdL.flat (flow_flat _) HXL.out), d5⟩
                · go_simp
                  obtain ⟨gG, hgG⟩ : ∃ g, g = T2.heap.size := ⟨_, rfl⟩
                  obtain ⟨T3, hT⟩ : ∃ T, T = (T2).alloc (.cells #[.string f, .string pa, .string pb, .string ms] 40) := ⟨_, rfl⟩
                  have d3 : Below V3.heap.size V3 T3 := by rw [hT]; exact d2.alloc d2.size (.cells #[.string f, .string pa, .string pb, .string ms] 40)
                  have kG3 : Blk T3 gG 40 #[.string f, .string pa, .string pb, .string ms] := by rw [hT, hgG]; exact Blk.new _ _ _
                  have hE3 : T3.ownsRow V3.heap.size 40 4 (.slice (some ⟨gE, 0, none⟩) 0 0) 0 [] := by rw [hT]; exact hE2.alloc _
                  have nGE : gE < gG := by rw [hgG]; have := (hE2.lt gE rfl).2; exact this
                  show K _ ((T2).alloc (.cells #[.string f, .string pa, .string pb, .string ms] 40))
                  rw [← hT, ← hgG]
                  clear hT hgG
                  refine hK.out _ _ (d3) (fun hHeld => ?_)
                  clear hK K
                  try simp only [Act.put, List.setIfInBounds_toArray, List.set_cons_zero, List.set_cons_succ]
                  refine ht_one 3 rfl (by kernel_rfl) (fun K hK => ?_)
                  refine step_append_any _ (by rfl) (.tmp 69) (.tmp 71) _ (by rfl) V3.heap.size 40 i0 _ 4 64 Try.underlying24 hi0 hz0 hz1 hz2 rfl (by omega) (.slice (some ⟨gE, 0, none⟩) 0 0) 0 [] (by rfl) hE3 _ AF m2.flows.length cF xs (by rfl) (HXR.out.below d3) HX1.out (by unfold maxLen; omega) (by omega) d3.size ?_
                  intro v3 T4 hA4 hgrow _
                  simp only [Nat.zero_add, List.nil_append] at hA4
                  obtain ⟨A3, c3, rfl, _, _⟩ := own_slice hA4
                  have d4 : Below V3.heap.size V3 T4 := d3.grown hgrow d3.size (fun j hj => by simp [Value.ownBlock] at hj; omega)
                  have kG4 := kG3.grown hgrow (by simp [Value.ownBlock]; omega)
                  clear hgrow
                  refine hK.out _ _ (d4) (fun hHeld => ?_)
                  clear hK K
                  try simp only [Act.put, List.setIfInBounds_toArray, List.set_cons_zero, List.set_cons_succ]
                  refine ht_one 26 rfl (by kernel_rfl) (fun K hK => ?_)
                  refine step_append_lies _ (by rfl) (.tmp 72) (.tmp 94) _ (by rfl) V3.heap.size 40 i0 _ 4 64 Try.underlying24 hi0 hz0 hz1 hz2 rfl (by omega) (.slice A3 m2.flows.length c3) m2.flows.length xs (by rfl) hA4 ⟨gG, 0, none⟩ 1 1 [.string f, .string pa, .string pb, .string ms] (by rfl) (by rfl) (World.news_of_block (cs := #[.string f, .string pa, .string pb, .string ms]) (t := 40) (fr := (0, 0)) kG4) (by simp [Value.oneCell']) (by omega) (by unfold maxLen; omega) (by omega) d4.size _ rfl ?_
                  intro g6 cap6 T5 hown6 hgrow6 _ _
                  have d5 : Below V3.heap.size V3 T5 := d4.grown hgrow6 d4.size (fun j hj => (hA4.lt j hj).1)
                  clear hgrow6
                  refine hK.out _ _ (d5) (fun hHeld => ?_)
                  clear hK K
                  try simp only [Act.put, List.setIfInBounds_toArray, List.set_cons_zero, List.set_cons_succ]
                  refine ht_done (by kernel_rfl) rfl ?_
                  go_wp2_with fail
                  go_meet
                  case rel => exact ⟨some ⟨g6, 0, none⟩, cap6, by rw [HL1N.out], by rw [HL1.out]; exact FL.of (x := ⟨f, pa, pb, ms⟩) hown6 hz3 (RdL.flat (flow_flat _) HXL.out), d5⟩
          · go_simp
            obtain ⟨gM, hgM⟩ : ∃ g, g = V3.heap.size := ⟨_, rfl⟩
            obtain ⟨T1, hT⟩ : ∃ T, T = (V3.drew).alloc (.cells #[.string ⟨#[109, 97]⟩, .string ⟨#[109, 98]⟩, .string ⟨#[109, 99]⟩] 9) := ⟨_, rfl⟩
            have d1 : Below V3.heap.size V3 T1 := by rw [hT]; exact d0.alloc d0.size (.cells #[.string ⟨#[109, 97]⟩, .string ⟨#[109, 98]⟩, .string ⟨#[109, 99]⟩] 9)
            have kM1 : Blk T1 gM 9 #[.string ⟨#[109, 97]⟩, .string ⟨#[109, 98]⟩, .string ⟨#[109, 99]⟩] := by rw [hT, hgM]; exact Blk.new _ _ _
            show K _ ((V3.drew).alloc (.cells #[.string ⟨#[109, 97]⟩, .string ⟨#[109, 98]⟩, .string ⟨#[109, 99]⟩] 9))
            rw [← hT, ← hgM]
            clear hT hgM
            refine hK.out _ _ (d1) (fun hHeld => ?_)
            clear hK K
            try simp only [Act.put, List.setIfInBounds_toArray, List.set_cons_zero, List.set_cons_succ]
            refine ht_take 22 (v := ?ve_25) rfl (by kernel_rfl) (fun _ _ _ h => h) (Or.inl ⟨by rfl, ?he_25⟩) hHeld ?re_25
            case he_25 => ((intro U hSw; have y3 : U.cell? ⟨w.heap.size, 3, none⟩ = some (.slice (some ⟨bp, 0, none⟩) m2.parts.length cP) := (hSw.cell (p := ⟨w.heap.size, 3, none⟩) hlB).trans HY3.out; have y4 : U.cell? ⟨w.heap.size, 4, none⟩ = some (.slice AF m2.flows.length cF) := (hSw.cell (p := ⟨w.heap.size, 4, none⟩) hlB).trans HY4.out; have yA : U.cell? ⟨bp, a * 2, none⟩ = some (.string pa) := (hSw.cell (p := ⟨bp, a * 2, none⟩) hbp3).trans HYA.out; have yB : U.cell? ⟨bp, b * 2, none⟩ = some (.string pb) := (hSw.cell (p := ⟨bp, b * 2, none⟩) hbp3).trans HYB.out; go_simp); (try (with_reducible rfl)))
            try simp only [Act.put, List.setIfInBounds_toArray, List.set_cons_zero, List.set_cons_succ]
            refine wpHT_all [0, 23] (by kernel_rfl) ?_
            refine ht_cons (i := 0) rfl (fun K hK => ?_) (ht_cons (i := 23) rfl (fun K hK => ?_) (allHT.nil))
            · go_simp
              obtain ⟨gE, hgE⟩ : ∃ g, g = T1.heap.size := ⟨_, rfl⟩
              obtain ⟨T2, hT⟩ : ∃ T, T = (T1).alloc (.cells #[] 40) := ⟨_, rfl⟩
              have d2 : Below V3.heap.size V3 T2 := by rw [hT]; exact d1.alloc d1.size (.cells #[] 40)
              have hE2 : T2.ownsRow V3.heap.size 40 4 (.slice (some ⟨gE, 0, none⟩) 0 0) 0 [] := by rw [hT, hgE]; exact World.ownsRow_lit (base := V3.heap.size) _ #[] 0 d1.size (by decide) rfl
              have kM2 : Blk T2 gM 9 #[.string ⟨#[109, 97]⟩, .string ⟨#[109, 98]⟩, .string ⟨#[109, 99]⟩] := by rw [hT]; exact kM1.alloc _
              have hgE0 : V3.heap.size ≤ gE := by rw [hgE]; exact d1.size
              have nEM : gM < gE := by rw [hgE]; exact kM1.lt
              show K _ ((T1).alloc (.cells #[] 40))
              rw [← hT, ← hgE]
              clear hT hgE
              refine hK.out _ _ (d2) (fun hHeld => ?_)
              clear hK K
              try simp only [Act.put, List.setIfInBounds_toArray, List.set_cons_zero, List.set_cons_succ]
              refine wpHT_all [3, 23] (by kernel_rfl) ?_
              refine ht_cons (i := 3) rfl (fun K hK => ?_) (ht_cons (i := 23) rfl (fun K hK => ?_) (allHT.nil))
              · refine step_append_any _ (by rfl) (.tmp 69) (.tmp 71) _ (by rfl) V3.heap.size 40 i0 _ 4 64 Try.underlying24 hi0 hz0 hz1 hz2 rfl (by omega) (.slice (some ⟨gE, 0, none⟩) 0 0) 0 [] (by rfl) hE2 _ AF m2.flows.length cF xs (by rfl) (HXR.out.below d2) HX1.out (by unfold maxLen; omega) (by omega) d2.size ?_
                intro v3 T3 hA3 hgrow _
                simp only [Nat.zero_add, List.nil_append] at hA3
                obtain ⟨A3, c3, rfl, _, _⟩ := own_slice hA3
                have d3 : Below V3.heap.size V3 T3 := d2.grown hgrow d2.size (fun j hj => by simp [Value.ownBlock] at hj; omega)
                have kM3 := kM2.grown hgrow (by simp [Value.ownBlock]; omega)
                clear hgrow
                refine hK.out _ _ (d3) (fun hHeld => ?_)
                clear hK K
                try simp only [Act.put, List.setIfInBounds_toArray, List.set_cons_zero, List.set_cons_succ]
                refine ht_one 23 rfl (by kernel_rfl) (fun K hK => ?_)
                have y9 : (T3).cell? ⟨gM, r8, none⟩ = some (.string ms) := (kM3.cell r8).trans HGM.out
                go_simp
                refine hK.out _ _ (d3) (fun hHeld => ?_)
                clear hK K
                try simp only [Act.put, List.setIfInBounds_toArray, List.set_cons_zero, List.set_cons_succ]
                refine ht_take 24 (v := ?ve_26) rfl (by kernel_rfl) (fun _ _ _ h => h) (Or.inl ⟨by rfl, ?he_26⟩) hHeld ?re_26
                case he_26 => ((intro U hSw; have y3 : U.cell? ⟨w.heap.size, 3, none⟩ = some (.slice (some ⟨bp, 0, none⟩) m2.parts.length cP) := (hSw.cell (p := ⟨w.heap.size, 3, none⟩) hlB).trans HY3.out; have y4 : U.cell? ⟨w.heap.size, 4, none⟩ = some (.slice AF m2.flows.length cF) := (hSw.cell (p := ⟨w.heap.size, 4, none⟩) hlB).trans HY4.out; have yA : U.cell? ⟨bp, a * 2, none⟩ = some (.string pa) := (hSw.cell (p := ⟨bp, a * 2, none⟩) hbp3).trans HYA.out; have yB : U.cell? ⟨bp, b * 2, none⟩ = some (.string pb) := (hSw.cell (p := ⟨bp, b * 2, none⟩) hbp3).trans HYB.out; go_simp); (try (with_reducible rfl)))
                try simp only [Act.put, List.setIfInBounds_toArray, List.set_cons_zero, List.set_cons_succ]
                refine ht_one 25 rfl (by kernel_rfl) (fun K hK => ?_)
                go_simp
                obtain ⟨gG, hgG⟩ : ∃ g, g = T3.heap.size := ⟨_, rfl⟩
                obtain ⟨T4, hT⟩ : ∃ T, T = (T3).alloc (.cells #[.string f, .string pa, .string pb, .string ms] 40) := ⟨_, rfl⟩
                have d4 : Below V3.heap.size V3 T4 := by rw [hT]; exact d3.alloc d3.size (.cells #[.string f, .string pa, .string pb, .string ms] 40)
                have kG4 : Blk T4 gG 40 #[.string f, .string pa, .string pb, .string ms] := by rw [hT, hgG]; exact Blk.new _ _ _
                have hA4 : T4.ownsRow V3.heap.size 40 4 (.slice A3 m2.flows.length c3) m2.flows.length xs := by rw [hT]; exact hA3.alloc _
                show K _ ((T3).alloc (.cells #[.string f, .string pa, .string pb, .string ms] 40))
                rw [← hT, ← hgG]
                clear hT hgG
                refine hK.out _ _ (d4) (fun hHeld => ?_)
                clear hK K
                try simp only [Act.put, List.setIfInBounds_toArray, List.set_cons_zero, List.set_cons_succ]
                refine ht_one 26 rfl (by kernel_rfl) (fun K hK => ?_)
                refine step_append_lies _ (by rfl) (.tmp 72) (.tmp 94) _ (by rfl) V3.heap.size 40 i0 _ 4 64 Try.underlying24 hi0 hz0 hz1 hz2 rfl (by omega) (.slice A3 m2.flows.length c3) m2.flows.length xs (by rfl) hA4 ⟨gG, 0, none⟩ 1 1 [.string f, .string pa, .string pb, .string ms] (by rfl) (by rfl) (World.news_of_block (cs := #[.string f, .string pa, .string pb, .string ms]) (t := 40) (fr := (0, 0)) kG4) (by simp [Value.oneCell']) (by omega) (by unfold maxLen; omega) (by omega) d4.size _ rfl ?_
                intro g6 cap6 T5 hown6 hgrow6 _ _
                have d5 : Below V3.heap.size V3 T5 := d4.grown hgrow6 d4.size (fun j hj => (hA4.lt j hj).1)
                clear hgrow6
                refine hK.out _ _ (d5) (fun hHeld => ?_)
                clear hK K
                try simp only [Act.put, List.setIfInBounds_toArray, List.set_cons_zero, List.set_cons_succ]
                refine ht_done (by kernel_rfl) rfl ?_
                go_wp2_with fail
                go_meet
                case rel => exact ⟨some ⟨g6, 0, none⟩, cap6, by rw [HL1N.out], by rw [HL1.out]; exact FL.of (x := ⟨f, pa, pb, ms⟩) hown6 hz3 (RdL.flat (flow_flat _) HXL.out), d5⟩
              · have y9 : (T2).cell? ⟨gM, r8, none⟩ = some (.string ms) := (kM2.cell r8).trans HGM.out
                go_simp
                refine hK.out _ _ (d2) (fun hHeld => ?_)
                clear hK K
                try simp only [Act.put, List.setIfInBounds_toArray, List.set_cons_zero, List.set_cons_succ]
                refine ht_take 24 (v := ?ve_27) rfl (by kernel_rfl) (fun _ _ _ h => h) (Or.inl ⟨by rfl, ?he_27⟩) hHeld ?re_27
                case he_27 => ((intro U hSw; have y3 : U.cell? ⟨w.heap.size, 3, none⟩ = some (.slice (some ⟨bp, 0, none⟩) m2.parts.length cP) := (hSw.cell (p := ⟨w.heap.size, 3, none⟩) hlB).trans HY3.out; have y4 : U.cell? ⟨w.heap.size, 4, none⟩ = some (.slice AF m2.flows.length cF) := (hSw.cell (p := ⟨w.heap.size, 4, none⟩) hlB).trans HY4.out; have yA : U.cell? ⟨bp, a * 2, none⟩ = some (.string pa) := (hSw.cell (p := ⟨bp, a * 2, none⟩) hbp3).trans HYA.out; have yB : U.cell? ⟨bp, b * 2, none⟩ = some (.string pb) := (hSw.cell (p := ⟨bp, b * 2, none⟩) hbp3).trans HYB.out; go_simp); (try (with_reducible rfl)))
                try simp only [Act.put, List.setIfInBounds_toArray, List.set_cons_zero, List.set_cons_succ]
                refine wpHT_all [3, 25] (by kernel_rfl) ?_
                refine ht_cons (i := 3) rfl (fun K hK => ?_) (ht_cons (i := 25) rfl (fun K hK => ?_) (allHT.nil))
                · refine step_append_any _ (by rfl) (.tmp 69) (.tmp 71) _ (by rfl) V3.heap.size 40 i0 _ 4 64 Try.underlying24 hi0 hz0 hz1 hz2 rfl (by omega) (.slice (some ⟨gE, 0, none⟩) 0 0) 0 [] (by rfl) hE2 _ AF m2.flows.length cF xs (by rfl) (HXR.out.below d2) HX1.out (by unfold maxLen; omega) (by omega) d2.size ?_
                  intro v3 T3 hA3 hgrow _
                  simp only [Nat.zero_add, List.nil_append] at hA3
                  obtain ⟨A3, c3, rfl, _, _⟩ := own_slice hA3
                  have d3 : Below V3.heap.size V3 T3 := d2.grown hgrow d2.size (fun j hj => by simp [Value.ownBlock] at hj; omega)
                  clear hgrow
                  refine hK.out _ _ (d3) (fun hHeld => ?_)
                  clear hK K
                  try simp only [Act.put, List.setIfInBounds_toArray, List.set_cons_zero, List.set_cons_succ]
                  refine ht_one 25 rfl (by kernel_rfl) (fun K hK => ?_)
                  go_simp
                  obtain ⟨gG, hgG⟩ : ∃ g, g = T3.heap.size := ⟨_, rfl⟩
                  obtain ⟨T4, hT⟩ : ∃ T, T = (T3).alloc (.cells #[.string f, .string pa, .string pb, .string ms] 40) := ⟨_, rfl⟩
                  have d4 : Below V3.heap.size V3 T4 := by rw [hT]; exact d3.alloc d3.size (.cells #[.string f, .string pa, .string pb, .string ms] 40)
                  have kG4 : Blk T4 gG 40 #[.string f, .string pa, .string pb, .string ms] := by rw [hT, hgG]; exact Blk.new _ _ _
                  have hA4 : T4.ownsRow V3.heap.size 40 4 (.slice A3 m2.flows.length c3) m2.flows.length xs := by rw [hT]; exact hA3.alloc _
                  show K _ ((T3).alloc (.cells #[.string f, .string pa, .string pb, .string ms] 40))
                  rw [← hT, ← hgG]
                  clear hT hgG
                  refine hK.out _ _ (d4) (fun hHeld => ?_)
                  clear hK K
                  try simp only [Act.put, List.setIfInBounds_toArray, List.set_cons_zero, List.set_cons_succ]
                  refine ht_one 26 rfl (by kernel_rfl) (fun K hK => ?_)
                  refine step_append_lies _ (by rfl) (.tmp 72) (.tmp 94) _ (by rfl) V3.heap.size 40 i0 _ 4 64 Try.underlying24 hi0 hz0 hz1 hz2 rfl (by omega) (.slice A3 m2.flows.length c3) m2.flows.length xs (by rfl) hA4 ⟨gG, 0, none⟩ 1 1 [.string f, .string pa, .string pb, .string ms] (by rfl) (by rfl) (World.news_of_block (cs := #[.string f, .string pa, .string pb, .string ms]) (t := 40) (fr := (0, 0)) kG4) (by simp [Value.oneCell']) (by omega) (by unfold maxLen; omega) (by omega) d4.size _ rfl ?_
                  intro g6 cap6 T5 hown6 hgrow6 _ _
                  have d5 : Below V3.heap.size V3 T5 := d4.grown hgrow6 d4.size (fun j hj => (hA4.lt j hj).1)
                  clear hgrow6
                  refine hK.out _ _ (d5) (fun hHeld => ?_)
                  clear hK K
                  try simp only [Act.put, List.setIfInBounds_toArray, List.set_cons_zero, List.set_cons_succ]
                  refine ht_done (by kernel_rfl) rfl ?_
                  go_wp2_with fail
                  go_meet
                  case rel => exact ⟨some ⟨g6, 0, none⟩, cap6, by rw [HL1N.out], by rw [HL1.out]; exact FL.of (x := ⟨f, pa, pb, ms⟩) hown6 hz3 (RdL.flat (flow_flat _) HXL.out), d5⟩
                · go_simp
                  obtain ⟨gG, hgG⟩ : ∃ g, g = T2.heap.size := ⟨_, rfl⟩
                  obtain ⟨T3, hT⟩ : ∃ T, T = (T2).alloc (.cells #[.string f, .string pa, .string pb, .string ms] 40) := ⟨_, rfl⟩
                  have d3 : Below V3.heap.size V3 T3 := by rw [hT]; exact d2.alloc d2.size (.cells #[.string f, .string pa, .string pb, .string ms] 40)
                  have kG3 : Blk T3 gG 40 #[.string f, .string pa, .string pb, .string ms] := by rw [hT, hgG]; exact Blk.new _ _ _
                  have hE3 : T3.ownsRow V3.heap.size 40 4 (.slice (some ⟨gE, 0, none⟩) 0 0) 0 [] := by rw [hT]; exact hE2.alloc _
                  have nGE : gE < gG := by rw [hgG]; have := (hE2.lt gE rfl).2; exact this
                  show K _ ((T2).alloc (.cells #[.string f, .string pa, .string pb, .string ms] 40))
                  rw [← hT, ← hgG]
                  clear hT hgG
                  refine hK.out _ _ (d3) (fun hHeld => ?_)
                  clear hK K
                  try simp only [Act.put, List.setIfInBounds_toArray, List.set_cons_zero, List.set_cons_succ]
                  refine ht_one 3 rfl (by kernel_rfl) (fun K hK => ?_)
                  refine step_append_any _ (by rfl) (.tmp 69) (.tmp 71) _ (by rfl) V3.heap.size 40 i0 _ 4 64 Try.underlying24 hi0 hz0 hz1 hz2 rfl (by omega) (.slice (some ⟨gE, 0, none⟩) 0 0) 0 [] (by rfl) hE3 _ AF m2.flows.length cF xs (by rfl) (HXR.out.below d3) HX1.out (by unfold maxLen; omega) (by omega) d3.size ?_
                  intro v3 T4 hA4 hgrow _
                  simp only [Nat.zero_add, List.nil_append] at hA4
                  obtain ⟨A3, c3, rfl, _, _⟩ := own_slice hA4
                  have d4 : Below V3.heap.size V3 T4 := d3.grown hgrow d3.size (fun j hj => by simp [Value.ownBlock] at hj; omega)
                  have kG4 := kG3.grown hgrow (by simp [Value.ownBlock]; omega)
                  clear hgrow
                  refine hK.out _ _ (d4) (fun hHeld => ?_)
                  clear hK K
                  try simp only [Act.put, List.setIfInBounds_toArray, List.set_cons_zero, List.set_cons_succ]
                  refine ht_one 26 rfl (by kernel_rfl) (fun K hK => ?_)
                  refine step_append_lies _ (by rfl) (.tmp 72) (.tmp 94) _ (by rfl) V3.heap.size 40 i0 _ 4 64 Try.underlying24 hi0 hz0 hz1 hz2 rfl (by omega) (.slice A3 m2.flows.length c3) m2.flows.length xs (by rfl) hA4 ⟨gG, 0, none⟩ 1 1 [.string f, .string pa, .string pb, .string ms] (by rfl) (by rfl) (World.news_of_block (cs := #[.string f, .string pa, .string pb, .string ms]) (t := 40) (fr := (0, 0)) kG4) (by simp [Value.oneCell']) (by omega) (by unfold maxLen; omega) (by omega) d4.size _ rfl ?_
                  intro g6 cap6 T5 hown6 hgrow6 _ _
                  have d5 : Below V3.heap.size V3 T5 := d4.grown hgrow6 d4.size (fun j hj => (hA4.lt j hj).1)
                  clear hgrow6
                  refine hK.out _ _ (d5) (fun hHeld => ?_)
                  clear hK K
                  try simp only [Act.put, List.setIfInBounds_toArray, List.set_cons_zero, List.set_cons_succ]
                  refine ht_done (by kernel_rfl) rfl ?_
                  go_wp2_with fail
                  go_meet
                  case rel => exact ⟨some ⟨g6, 0, none⟩, cap6, by rw [HL1N.out], by rw [HL1.out]; exact FL.of (x := ⟨f, pa, pb, ms⟩) hown6 hz3 (RdL.flat (flow_flat _) HXL.out), d5⟩
            · have y9 : (T1).cell? ⟨gM, r8, none⟩ = some (.string ms) := (kM1.cell r8).trans HGM.out
              go_simp
              refine hK.out _ _ (d1) (fun hHeld => ?_)
              clear hK K
              try simp only [Act.put, List.setIfInBounds_toArray, List.set_cons_zero, List.set_cons_succ]
              refine ht_take 24 (v := ?ve_28) rfl (by kernel_rfl) (fun _ _ _ h => h) (Or.inl ⟨by rfl, ?he_28⟩) hHeld ?re_28
              case he_28 => ((intro U hSw; have y3 : U.cell? ⟨w.heap.size, 3, none⟩ = some (.slice (some ⟨bp, 0, none⟩) m2.parts.length cP) := (hSw.cell (p := ⟨w.heap.size, 3, none⟩) hlB).trans HY3.out; have y4 : U.cell? ⟨w.heap.size, 4, none⟩ = some (.slice AF m2.flows.length cF) := (hSw.cell (p := ⟨w.heap.size, 4, none⟩) hlB).trans HY4.out; have yA : U.cell? ⟨bp, a * 2, none⟩ = some (.string pa) := (hSw.cell (p := ⟨bp, a * 2, none⟩) hbp3).trans HYA.out; have yB : U.cell? ⟨bp, b * 2, none⟩ = some (.string pb) := (hSw.cell (p := ⟨bp, b * 2, none⟩) hbp3).trans HYB.out; go_simp); (try (with_reducible rfl)))
              try simp only [Act.put, List.setIfInBounds_toArray, List.set_cons_zero, List.set_cons_succ]
              refine wpHT_all [0, 25] (by kernel_rfl) ?_
              refine ht_cons (i := 0) rfl (fun K hK => ?_) (ht_cons (i := 25) rfl (fun K hK => ?_) (allHT.nil))
              · go_simp
                obtain ⟨gE, hgE⟩ : ∃ g, g = T1.heap.size := ⟨_, rfl⟩
                obtain ⟨T2, hT⟩ : ∃ T, T = (T1).alloc (.cells #[] 40) := ⟨_, rfl⟩
                have d2 : Below V3.heap.size V3 T2 := by rw [hT]; exact d1.alloc d1.size (.cells #[] 40)
                have hE2 : T2.ownsRow V3.heap.size 40 4 (.slice (some ⟨gE, 0, none⟩) 0 0) 0 [] := by rw [hT, hgE]; exact World.ownsRow_lit (base := V3.heap.size) _ #[] 0 d1.size (by decide) rfl
                have hgE0 : V3.heap.size ≤ gE := by rw [hgE]; exact d1.size
                show K _ ((T1).alloc (.cells #[] 40))
                rw [← hT, ← hgE]
                clear hT hgE
                refine hK.out _ _ (d2) (fun hHeld => ?_)
                clear hK K
                try simp only [Act.put, List.setIfInBounds_toArray, List.set_cons_zero, List.set_cons_succ]
                refine wpHT_all [3, 25] (by kernel_rfl) ?_
                refine ht_cons (i := 3) rfl (fun K hK => ?_) (ht_cons (i := 25) rfl (fun K hK => ?_) (allHT.nil))
                · refine step_append_any _ (by rfl) (.tmp 69) (.tmp 71) _ (by rfl) V3.heap.size 40 i0 _ 4 64 Try.underlying24 hi0 hz0 hz1 hz2 rfl (by omega) (.slice (some ⟨gE, 0, none⟩) 0 0) 0 [] (by rfl) hE2 _ AF m2.flows.length cF xs (by rfl) (HXR.out.below d2) HX1.out (by unfold maxLen; omega) (by omega) d2.size ?_
                  intro v3 T3 hA3 hgrow _
                  simp only [Nat.zero_add, List.nil_append] at hA3
                  obtain ⟨A3, c3, rfl, _, _⟩ := own_slice hA3
                  have d3 : Below V3.heap.size V3 T3 := d2.grown hgrow d2.size (fun j hj => by simp [Value.ownBlock] at hj; omega)
                  clear hgrow
                  refine hK.out _ _ (d3) (fun hHeld => ?_)
                  clear hK K
                  try simp only [Act.put, List.setIfInBounds_toArray, List.set_cons_zero, List.set_cons_succ]
                  refine ht_one 25 rfl (by kernel_rfl) (fun K hK => ?_)
                  go_simp
                  obtain ⟨gG, hgG⟩ : ∃ g, g = T3.heap.size := ⟨_, rfl⟩
                  obtain ⟨T4, hT⟩ : ∃ T, T = (T3).alloc (.cells #[.string f, .string pa, .string pb, .string ms] 40) := ⟨_, rfl⟩
                  have d4 : Below V3.heap.size V3 T4 := by rw [hT]; exact d3.alloc d3.size (.cells #[.string f, .string pa, .string pb, .string ms] 40)
                  have kG4 : Blk T4 gG 40 #[.string f, .string pa, .string pb, .string ms] := by rw [hT, hgG]; exact Blk.new _ _ _
                  have hA4 : T4.ownsRow V3.heap.size 40 4 (.slice A3 m2.flows.length c3) m2.flows.length xs := by rw [hT]; exact hA3.alloc _
                  show K _ ((T3).alloc (.cells #[.string f, .string pa, .string pb, .string ms] 40))
                  rw [← hT, ← hgG]
                  clear hT hgG
                  refine hK.out _ _ (d4) (fun hHeld => ?_)
                  clear hK K
                  try simp only [Act.put, List.setIfInBounds_toArray, List.set_cons_zero, List.set_cons_succ]
                  refine ht_one 26 rfl (by kernel_rfl) (fun K hK => ?_)
                  refine step_append_lies _ (by rfl) (.tmp 72) (.tmp 94) _ (by rfl) V3.heap.size 40 i0 _ 4 64 Try.underlying24 hi0 hz0 hz1 hz2 rfl (by omega) (.slice A3 m2.flows.length c3) m2.flows.length xs (by rfl) hA4 ⟨gG, 0, none⟩ 1 1 [.string f, .string pa, .string pb, .string ms] (by rfl) (by rfl) (World.news_of_block (cs := #[.string f, .string pa, .string pb, .string ms]) (t := 40) (fr := (0, 0)) kG4) (by simp [Value.oneCell']) (by omega) (by unfold maxLen; omega) (by omega) d4.size _ rfl ?_
                  intro g6 cap6 T5 hown6 hgrow6 _ _
                  have d5 : Below V3.heap.size V3 T5 := d4.grown hgrow6 d4.size (fun j hj => (hA4.lt j hj).1)
                  clear hgrow6
                  refine hK.out _ _ (d5) (fun hHeld => ?_)
                  clear hK K
                  try simp only [Act.put, List.setIfInBounds_toArray, List.set_cons_zero, List.set_cons_succ]
                  refine ht_done (by kernel_rfl) rfl ?_
                  go_wp2_with fail
                  go_meet
                  case rel => exact ⟨some ⟨g6, 0, none⟩, cap6, by rw [HL1N.out], by rw [HL1.out]; exact FL.of (x := ⟨f, pa, pb, ms⟩) hown6 hz3 (RdL.flat (flow_flat _) HXL.out), d5⟩
                · go_simp
                  obtain ⟨gG, hgG⟩ : ∃ g, g = T2.heap.size := ⟨_, rfl⟩
                  obtain ⟨T3, hT⟩ : ∃ T, T = (T2).alloc (.cells #[.string f, .string pa, .string pb, .string ms] 40) := ⟨_, rfl⟩
                  have d3 : Below V3.heap.size V3 T3 := by rw [hT]; exact d2.alloc d2.size (.cells #[.string f, .string pa, .string pb, .string ms] 40)
                  have kG3 : Blk T3 gG 40 #[.string f, .string pa, .string pb, .string ms] := by rw [hT, hgG]; exact Blk.new _ _ _
                  have hE3 : T3.ownsRow V3.heap.size 40 4 (.slice (some ⟨gE, 0, none⟩) 0 0) 0 [] := by rw [hT]; exact hE2.alloc _
                  have nGE : gE < gG := by rw [hgG]; have := (hE2.lt gE rfl).2; exact this
                  show K _ ((T2).alloc (.cells #[.string f, .string pa, .string pb, .string ms] 40))
                  rw [← hT, ← hgG]
                  clear hT hgG
                  refine hK.out _ _ (d3) (fun hHeld => ?_)
                  clear hK K
                  try simp only [Act.put, List.setIfInBounds_toArray, List.set_cons_zero, List.set_cons_succ]
                  refine ht_one 3 rfl (by kernel_rfl) (fun K hK => ?_)
                  refine step_append_any _ (by rfl) (.tmp 69) (.tmp 71) _ (by rfl) V3.heap.size 40 i0 _ 4 64 Try.underlying24 hi0 hz0 hz1 hz2 rfl (by omega) (.slice (some ⟨gE, 0, none⟩) 0 0) 0 [] (by rfl) hE3 _ AF m2.flows.length cF xs (by rfl) (HXR.out.below d3) HX1.out (by unfold maxLen; omega) (by omega) d3.size ?_
                  intro v3 T4 hA4 hgrow _
                  simp only [Nat.zero_add, List.nil_append] at hA4
                  obtain ⟨A3, c3, rfl, _, _⟩ := own_slice hA4
                  have d4 : Below V3.heap.size V3 T4 := d3.grown hgrow d3.size (fun j hj => by simp [Value.ownBlock] at hj; omega)
                  have kG4 := kG3.grown hgrow (by simp [Value.ownBlock]; omega)
                  clear hgrow
                  refine hK.out _ _ (d4) (fun hHeld => ?_)
                  clear hK K
                  try simp only [Act.put, List.setIfInBounds_toArray, List.set_cons_zero, List.set_cons_succ]
                  refine ht_one 26 rfl (by kernel_rfl) (fun K hK => ?_)
                  refine step_append_lies _ (by rfl) (.tmp 72) (.tmp 94) _ (by rfl) V3.heap.size 40 i0 _ 4 64 Try.underlying24 hi0 hz0 hz1 hz2 rfl (by omega) (.slice A3 m2.flows.length c3) m2.flows.length xs (by rfl) hA4 ⟨gG, 0, none⟩ 1 1 [.string f, .string pa, .string pb, .string ms] (by rfl) (by rfl) (World.news_of_block (cs := #[.string f, .string pa, .string pb, .string ms]) (t := 40) (fr := (0, 0)) kG4) (by simp [Value.oneCell']) (by omega) (by unfold maxLen; omega) (by omega) d4.size _ rfl ?_
                  intro g6 cap6 T5 hown6 hgrow6 _ _
                  have d5 : Below V3.heap.size V3 T5 := d4.grown hgrow6 d4.size (fun j hj => (hA4.lt j hj).1)
                  clear hgrow6
                  refine hK.out _ _ (d5) (fun hHeld => ?_)
                  clear hK K
                  try simp only [Act.put, List.setIfInBounds_toArray, List.set_cons_zero, List.set_cons_succ]
                  refine ht_done (by kernel_rfl) rfl ?_
                  go_wp2_with fail
                  go_meet
                  case rel => exact ⟨some ⟨g6, 0, none⟩, cap6, by rw [HL1N.out], by rw [HL1.out]; exact FL.of (x := ⟨f, pa, pb, ms⟩) hown6 hz3 (RdL.flat (flow_flat _) HXL.out), d5⟩
              · go_simp
                obtain ⟨gG, hgG⟩ : ∃ g, g = T1.heap.size := ⟨_, rfl⟩
                obtain ⟨T2, hT⟩ : ∃ T, T = (T1).alloc (.cells #[.string f, .string pa, .string pb, .string ms] 40) := ⟨_, rfl⟩
                have d2 : Below V3.heap.size V3 T2 := by rw [hT]; exact d1.alloc d1.size (.cells #[.string f, .string pa, .string pb, .string ms] 40)
                have kG2 : Blk T2 gG 40 #[.string f, .string pa, .string pb, .string ms] := by rw [hT, hgG]; exact Blk.new _ _ _
                show K _ ((T1).alloc (.cells #[.string f, .string pa, .string pb, .string ms] 40))
                rw [← hT, ← hgG]
                clear hT hgG
                refine hK.out _ _ (d2) (fun hHeld => ?_)
                clear hK K
                try simp only [Act.put, List.setIfInBounds_toArray, List.set_cons_zero, List.set_cons_succ]
                refine ht_one 0 rfl (by kernel_rfl) (fun K hK => ?_)
                go_simp
                obtain ⟨gE, hgE⟩ : ∃ g, g = T2.heap.size := ⟨_, rfl⟩
                obtain ⟨T3, hT⟩ : ∃ T, T = (T2).alloc (.cells #[] 40) := ⟨_, rfl⟩
                have d3 : Below V3.heap.size V3 T3 := by rw [hT]; exact d2.alloc d2.size (.cells #[] 40)
                have hE3 : T3.ownsRow V3.heap.size 40 4 (.slice (some ⟨gE, 0, none⟩) 0 0) 0 [] := by rw [hT, hgE]; exact World.ownsRow_lit (base := V3.heap.size) _ #[] 0 d2.size (by decide) rfl
                have kG3 : Blk T3 gG 40 #[.string f, .string pa, .string pb, .string ms] := by rw [hT]; exact kG2.alloc _
                have hgE0 : V3.heap.size ≤ gE := by rw [hgE]; exact d2.size
                have nEG : gG < gE := by rw [hgE]; exact kG2.lt
                show K _ ((T2).alloc (.cells #[] 40))
                rw [← hT, ← hgE]
                clear hT hgE
                refine hK.out _ _ (d3) (fun hHeld => ?_)
                clear hK K
                try simp only [Act.put, List.setIfInBounds_toArray, List.set_cons_zero, List.set_cons_succ]
                refine ht_one 3 rfl (by kernel_rfl) (fun K hK => ?_)
                refine step_append_any _ (by rfl) (.tmp 69) (.tmp 71) _ (by rfl) V3.heap.size 40 i0 _ 4 64 Try.underlying24 hi0 hz0 hz1 hz2 rfl (by omega) (.slice (some ⟨gE, 0, none⟩) 0 0) 0 [] (by rfl) hE3 _ AF m2.flows.length cF xs (by rfl) (HXR.out.below d3) HX1.out (by unfold maxLen; omega) (by omega) d3.size ?_
                intro v3 T4 hA4 hgrow _
                simp only [Nat.zero_add, List.nil_append] at hA4
                obtain ⟨A3, c3, rfl, _, _⟩ := own_slice hA4
                have d4 : Below V3.heap.size V3 T4 := d3.grown hgrow d3.size (fun j hj => by simp [Value.ownBlock] at hj; omega)
                have kG4 := kG3.grown hgrow (by simp [Value.ownBlock]; omega)
                clear hgrow
                refine hK.out _ _ (d4) (fun hHeld => ?_)
                clear hK K
                try simp only [Act.put, List.setIfInBounds_toArray, List.set_cons_zero, List.set_cons_succ]
                refine ht_one 26 rfl (by kernel_rfl) (fun K hK => ?_)
                refine step_append_lies _ (by rfl) (.tmp 72) (.tmp 94) _ (by rfl) V3.heap.size 40 i0 _ 4 64 Try.underlying24 hi0 hz0 hz1 hz2 rfl (by omega) (.slice A3 m2.flows.length c3) m2.flows.length xs (by rfl) hA4 ⟨gG, 0, none⟩ 1 1 [.string f, .string pa, .string pb, .string ms] (by rfl) (by rfl) (World.news_of_block (cs := #[.string f, .string pa, .string pb, .string ms]) (t := 40) (fr := (0, 0)) kG4) (by simp [Value.oneCell']) (by omega) (by unfold maxLen; omega) (by omega) d4.size _ rfl ?_
                intro g6 cap6 T5 hown6 hgrow6 _ _
                have d5 : Below V3.heap.size V3 T5 := d4.grown hgrow6 d4.size (fun j hj => (hA4.lt j hj).1)
                clear hgrow6
                refine hK.out _ _ (d5) (fun hHeld => ?_)
                clear hK K
                try simp only [Act.put, List.setIfInBounds_toArray, List.set_cons_zero, List.set_cons_succ]
                refine ht_done (by kernel_rfl) rfl ?_
                go_wp2_with fail
                go_meet
                case rel => exact ⟨some ⟨g6, 0, none⟩, cap6, by rw [HL1N.out], by rw [HL1.out]; exact FL.of (x := ⟨f, pa, pb, ms⟩) hown6 hz3 (RdL.flat (flow_flat _) HXL.out), d5⟩
        case rest =>
          obtain ⟨A8, c8, rfl, hFL, hb8⟩ := hcut
          obtain ⟨V4, rfl⟩ : ∃ V, V = wc := ⟨_, rfl⟩
          have HT4 := Lib.hid (HT3.out.below hb8)
          have HTI4 := Lib.hid (HTI.out.below hb8)
          have HFL := Lib.hid hFL
          obtain ⟨gg, hgg⟩ : ∃ g, g = gnameF m2 chF := ⟨_, rfl⟩
          obtain ⟨m3, hm3⟩ : ∃ M, M = (if gback x then gnamedF m2 else m2) := ⟨_, rfl⟩
          obtain ⟨fl3, hfl3⟩ : ∃ l, l = f :: (if gback x then [gg] else []) := ⟨_, rfl⟩
          obtain ⟨L3, hL3⟩ : ∃ L, L = L1 ++ (if gback x then [(⟨gg, pb, pa, ⟨#[109, 100]⟩⟩ : FlowD)] else []) := ⟨_, rfl⟩
          have HGG := Lib.hid hgg
          have HM3 := Lib.hid hm3
          have HFL3 := Lib.hid hfl3
          have HL3 := Lib.hid hL3
          have hs2 : SmallM 8002 m2 := by rw [HM2.out]; exact HS.out.named.named
          have HS2 := Lib.hid hs2
          have f10 := F10.out
          clear hFL hb8 hgg hm3 hfl3 hL3 hs2
          go_upto_if 99 with fail
          clear f10
          go_cut [11, 13] (fun _v v wx => ∃ AF3 cF3 A9 c9, v = .slice A9 L3.length c9 ∧ TW w V2 A cap m3 (some ⟨bp, 0, none⟩) cP AF cF AI cI AS cS wx ∧ TI w t pa pb lp fl3 (.slice AF3 fl3.length cF3) gI gP wx ∧ FL V2 L3 A9 c9 wx)
          case first =>
            cases hgb : gback x with
            | false =>
              have hL : L3 = L1 := by rw [HL3.out, hgb]; simp
              have hm : m3 = m2 := by rw [HM3.out, hgb]; rfl
              have hf : fl3 = [f] := by rw [HFL3.out, hgb]; rfl
              have f11 : ((q3 : Int) == 0) = false := by
                have h1 : ¬ (q3 = 0) := fun h => by rw [HBK.out.1 h] at hgb; cases hgb
                simp
                omega
              have HX := Lib.hid hL
              have HY := Lib.hid hm
              have HZ := Lib.hid hf
              clear hL hm hf hgb
              go_wp2_with fail
              go_meet
              case rel =>
                rw [HX.out, HY.out, HZ.out]
                exact ⟨_, _, _, _, rfl, HT4.out, HTI4.out, HFL.out⟩
            | true =>
              have hL : L3 = L1 ++ [(⟨gg, pb, pa, ⟨#[109, 100]⟩⟩ : FlowD)] := by rw [HL3.out, hgb]; rfl
              have hLn : L3.length = L1.length + 1 := by rw [hL]; simp
              have hm : m3 = gnamedF m2 := by rw [HM3.out, hgb]; rfl
              have hf : fl3 = [f, gg] := by rw [HFL3.out, hgb]; rfl
              have f11 : ((q3 : Int) == 0) = true := by
                have h1 : q3 = 0 := HBK.out.2 hgb
                rw [h1]
                rfl
              have HX := Lib.hid hL
              have HXN := Lib.hid hLn
              have HY := Lib.hid hm
              have HZ := Lib.hid hf
              clear hL hLn hm hf hgb
              go_upto_region 10 with fail
              clear f11
              go_cut [11] (fun v wx => v = .string gg ∧ TW w V2 A cap (gnamedF m2) (some ⟨bp, 0, none⟩) cP AF cF AI cI AS cS wx ∧ TI w t pa pb lp [f] (.slice (some ⟨gF, 0, none⟩) 1 1) gI gP wx ∧ FL V2 L1 A8 c8 wx)
              case first =>
                have hC4 := HC.out.grown HT4.out.kept HB.out
                have hB := HT4.out.main
                have y0 : V4.cell? ⟨w.heap.size, 0, none⟩ = some (.slice A m2.p.length cap) := hB.cell 0
                have y1 : V4.cell? ⟨w.heap.size, 1, none⟩ = some (.int .i64 m2.at_) := hB.cell 1
                have y2 : V4.cell? ⟨w.heap.size, 2, none⟩ = some (.int .i64 m2.n) := hB.cell 2
                have y3 : V4.cell? ⟨w.heap.size, 3, none⟩ = some (.slice (some ⟨bp, 0, none⟩) m2.parts.length cP) := hB.cell 3
                have y4 : V4.cell? ⟨w.heap.size, 4, none⟩ = some (.slice AF m2.flows.length cF) := hB.cell 4
                have y5 : V4.cell? ⟨w.heap.size, 5, none⟩ = some (.slice AI m2.items.length cI) := hB.cell 5
                have y6 : V4.cell? ⟨w.heap.size, 6, none⟩ = some (.slice AS m2.seqs.length cS) := hB.cell 6
                have y7 : V4.cell? ⟨w.heap.size, 7, none⟩ = some (.string m2.pre) := hB.cell 7
                have hgl := hB.lt
                have HC4 := Lib.hid hC4
                clear hC4
                go_wp2_with fail
                refine (name_same HC4.out (HS2.out.mono (by decide)) chF (by decide)).mono ?_
                rintro e w1 ⟨rfl, hb1⟩
                have hB2 := hB.below hb1 hB.lt
                have HT5 := Lib.hid (HT4.out.put hb1 (gnamedF m2))
                have HI5 := Lib.hid ((HTI4.out.below hb1).grown (putAll_grown [.slice A (gnamedF m2).p.length cap, .int .i64 (gnamedF m2).at_, .int .i64 (gnamedF m2).n, .slice (some ⟨bp, 0, none⟩) (gnamedF m2).parts.length cP, .slice AF (gnamedF m2).flows.length cF, .slice AI (gnamedF m2).items.length cI, .slice AS (gnamedF m2).seqs.length cS, .string (gnamedF m2).pre] w1) hB2)
                have HF5 := Lib.hid ((HFL.out.below hb1).grown (putAll_grown [.slice A (gnamedF m2).p.length cap, .int .i64 (gnamedF m2).at_, .int .i64 (gnamedF m2).n, .slice (some ⟨bp, 0, none⟩) (gnamedF m2).parts.length cP, .slice AF (gnamedF m2).flows.length cF, .slice AI (gnamedF m2).items.length cI, .slice AS (gnamedF m2).seqs.length cS, .string (gnamedF m2).pre] w1) hB2)
                have z0 : w1.cell? ⟨w.heap.size, 0, none⟩ = some (.slice A m2.p.length cap) := hB2.cell 0
                have z1 : w1.cell? ⟨w.heap.size, 1, none⟩ = some (.int .i64 m2.at_) := hB2.cell 1
                have z2 : w1.cell? ⟨w.heap.size, 2, none⟩ = some (.int .i64 m2.n) := hB2.cell 2
                have z3 : w1.cell? ⟨w.heap.size, 3, none⟩ = some (.slice (some ⟨bp, 0, none⟩) m2.parts.length cP) := hB2.cell 3
                have z4 : w1.cell? ⟨w.heap.size, 4, none⟩ = some (.slice AF m2.flows.length cF) := hB2.cell 4
                have z5 : w1.cell? ⟨w.heap.size, 5, none⟩ = some (.slice AI m2.items.length cI) := hB2.cell 5
                have z6 : w1.cell? ⟨w.heap.size, 6, none⟩ = some (.slice AS m2.seqs.length cS) := hB2.cell 6
                have z7 : w1.cell? ⟨w.heap.size, 7, none⟩ = some (.string m2.pre) := hB2.cell 7
                have q0 := hB2.frozen 0
                have q1 := hB2.frozen 1
                have q2 := hB2.frozen 2
                have q3 := hB2.frozen 3
                have q4 := hB2.frozen 4
                have q5 := hB2.frozen 5
                have q6 := hB2.frozen 6
                have q7 := hB2.frozen 7
                have hgl1 := hB2.lt
                clear y0 y1 y2 y3 y4 y5 y6 y7 hB hB2 hb1
                go_wp2_with fail
                go_meet
                case rel => exact ⟨by rw [HGG.out], HT5.out, HI5.out, HF5.out⟩
              case rest =>
                obtain ⟨rfl, hT5, hI5, hF5⟩ := hcut
                obtain ⟨V5, rfl⟩ : ∃ V, V = wc := ⟨_, rfl⟩
                have HT5 := Lib.hid hT5
                have HI5 := Lib.hid hI5
                have HF5 := Lib.hid hF5
                clear hT5 hI5 hF5
                go_upto_region 11 with fail
                go_cut [] (fun wx => ∃ A5 c5, TW w V2 A cap (gnamedF m2) (some ⟨bp, 0, none⟩) cP AF cF AI cI AS cS wx ∧ TI w t pa pb lp [f, gg] (.slice A5 2 c5) gI gP wx ∧ FL V2 L1 A8 c8 wx)
                case first =>
                  have i4 : V5.cell? ⟨gI, 4, none⟩ = some (.slice (some ⟨gF, 0, none⟩) 1 1) := HI5.out.bI.cell 4
                  have hlI := HI5.out.bI.lt
                  have hlr := HT5.out.res.lt
                  go_wp2_with (at_builtin; refine wpList_append_full _ rfl (.tmp 106) (.tmp 108) _ rfl (w.heap.size + 2) 9 j0 _ 1 16 Try.underlying30 hj0 hy0 hy1 hy2 rfl (by omega) gF 1 [.string f] rfl (HI5.out.oF.alloc _) ⟨V5.heap.size, 0, none⟩ 1 1 [.string gg] rfl rfl (World.news_of_block (cs := #[.string gg]) (t := 9) (fr := (0, 0)) (heap_alloc_new V5 _)) (by omega) (by unfold maxLen; omega) (by omega) (by simp; omega) (V5.heap.size + 1) (by simp) ?_)
                  intro c5 w6 hown6 hgrow6
                  have hb6 : Below V5.heap.size V5 w6 := ((Below.refl V5.heap.size V5).alloc (Nat.le_refl _) (.cells #[.string gg] 9)).grown hgrow6 (by simp) (fun k hk => by cases hk)
                  have hT6 := HT5.out.below hb6
                  have hI6 := HI5.out.below hb6
                  have hF6 := HF5.out.below hb6
                  have j4 : w6.cell? ⟨gI, 4, none⟩ = some (.slice (some ⟨gF, 0, none⟩) 1 1) := hI6.bI.cell 4
                  have q4 := hI6.bI.frozen 4
                  have hlI6 := hI6.bI.lt
                  have hs6 : w6.grownBy (w6.setCell ⟨gI, 4, none⟩ (.slice (some ⟨V5.heap.size + 1, 0, none⟩) 2 c5)) (some gI) := only_setQ _
                  have HT7 := Lib.hid (hT6.grow hs6 hI6.bI (by decide) hgI)
                  have HF7 := Lib.hid (hF6.grow hs6 hI6.bI (by decide))
                  have HI7 := Lib.hid (hI6.flows (fl2 := [f, gg]) hown6 (by simp [Value.ownBlock]; omega))
                  clear i4 hT6 hI6 hF6 hown6 hgrow6 hb6 hs6
                  go_wp2_with fail
                  go_meet
                  case rel => exact ⟨_, _, HT7.out, HI7.out, HF7.out⟩
                case rest =>
                  obtain ⟨A5, c5, hT7, hI7, hF7⟩ := hcut
                  obtain ⟨V7, rfl⟩ : ∃ V, V = wc := ⟨_, rfl⟩
                  have HT7 := Lib.hid hT7
                  have HI7 := Lib.hid hI7
                  obtain ⟨xl, ho7, hl7⟩ := hF7.row
                  have HO7 := Lib.hid ho7
                  have HLL := Lib.hid hl7
                  have hlI7 := hI7.bI.lt
                  have hLb : L1.length ≤ 8001 := by have := HL1N.out; omega
                  clear hT7 hI7 hF7 ho7 hl7
                  go_upto_region 12 with fail
                  go_cut [13] (fun v wx => ∃ A9 c9, v = .slice A9 L3.length c9 ∧ TW w V2 A cap (gnamedF m2) (some ⟨bp, 0, none⟩) cP AF cF AI cI AS cS wx ∧ TI w t pa pb lp [f, gg] (.slice A5 2 c5) gI gP wx ∧ FL V2 L3 A9 c9 wx)
                  case first =>
                    have f2 := F2.out
                    have f5 := F5.out
                    have hlnI := HLI.out
                    have haI := HAI.out
                    have hbI := HBI.out
                    refine wp_region_HT 17 (fun U => TW w V2 A cap (gnamedF m2) (some ⟨bp, 0, none⟩) cP AF cF AI cI AS cS U) (by kernel_rfl) (by decide) (HT7.out.below (Below.refl _ _).drew) (fun hHeld => ?_)
                    refine ht_take 0 (v := ?vf_1) rfl (by kernel_rfl) (fun _ _ _ h => h) (Or.inl ⟨by rfl, ?hf_1⟩) hHeld ?rf_1
                    case hf_1 => ((intro U hSw; have y3 : U.cell? ⟨w.heap.size, 3, none⟩ = some (.slice (some ⟨bp, 0, none⟩) m2.parts.length cP) := hSw.main.cell 3; have yA : U.cell? ⟨bp, a * 2, none⟩ = some (.string pa) := hSw.kept.cell HCA.out (fun e => hbpw (by injection e)); have yB : U.cell? ⟨bp, b * 2, none⟩ = some (.string pb) := hSw.kept.cell HCB.out (fun e => hbpw (by injection e)); go_simp); (try (with_reducible rfl)))
                    try simp only [Act.put, List.setIfInBounds_toArray, List.set_cons_zero, List.set_cons_succ]
                    refine ht_take 1 (v := ?vf_2) rfl (by kernel_rfl) (fun _ _ _ h => h) (Or.inl ⟨by rfl, ?hf_2⟩) hHeld ?rf_2
                    case hf_2 => ((intro U hSw; have y3 : U.cell? ⟨w.heap.size, 3, none⟩ = some (.slice (some ⟨bp, 0, none⟩) m2.parts.length cP) := hSw.main.cell 3; have yA : U.cell? ⟨bp, a * 2, none⟩ = some (.string pa) := hSw.kept.cell HCA.out (fun e => hbpw (by injection e)); have yB : U.cell? ⟨bp, b * 2, none⟩ = some (.string pb) := hSw.kept.cell HCB.out (fun e => hbpw (by injection e)); go_simp); (try (with_reducible rfl)))
                    try simp only [Act.put, List.setIfInBounds_toArray, List.set_cons_zero, List.set_cons_succ]
                    refine ht_take 2 (v := ?vf_3) rfl (by kernel_rfl) (fun _ _ _ h => h) (Or.inl ⟨by rfl, ?hf_3⟩) hHeld ?rf_3
                    case hf_3 => ((intro U hSw; have y3 : U.cell? ⟨w.heap.size, 3, none⟩ = some (.slice (some ⟨bp, 0, none⟩) m2.parts.length cP) := hSw.main.cell 3; have yA : U.cell? ⟨bp, a * 2, none⟩ = some (.string pa) := hSw.kept.cell HCA.out (fun e => hbpw (by injection e)); have yB : U.cell? ⟨bp, b * 2, none⟩ = some (.string pb) := hSw.kept.cell HCB.out (fun e => hbpw (by injection e)); go_simp); (try (with_reducible rfl)))
                    try simp only [Act.put, List.setIfInBounds_toArray, List.set_cons_zero, List.set_cons_succ]
                    refine ht_take 3 (v := ?vf_4) rfl (by kernel_rfl) (fun _ _ _ h => h) (Or.inl ⟨by rfl, ?hf_4⟩) hHeld ?rf_4
                    case hf_4 => ((intro U hSw; have y3 : U.cell? ⟨w.heap.size, 3, none⟩ = some (.slice (some ⟨bp, 0, none⟩) m2.parts.length cP) := hSw.main.cell 3; have yA : U.cell? ⟨bp, a * 2, none⟩ = some (.string pa) := hSw.kept.cell HCA.out (fun e => hbpw (by injection e)); have yB : U.cell? ⟨bp, b * 2, none⟩ = some (.string pb) := hSw.kept.cell HCB.out (fun e => hbpw (by injection e)); go_simp); (try (with_reducible rfl)))
                    try simp only [Act.put, List.setIfInBounds_toArray, List.set_cons_zero, List.set_cons_succ]
                    refine ht_take 4 (v := ?vf_5) rfl (by kernel_rfl) (fun _ _ _ h => h) (Or.inl ⟨by rfl, ?hf_5⟩) hHeld ?rf_5
                    case hf_5 => ((intro U hSw; have y3 : U.cell? ⟨w.heap.size, 3, none⟩ = some (.slice (some ⟨bp, 0, none⟩) m2.parts.length cP) := hSw.main.cell 3; have yA : U.cell? ⟨bp, a * 2, none⟩ = some (.string pa) := hSw.kept.cell HCA.out (fun e => hbpw (by injection e)); have yB : U.cell? ⟨bp, b * 2, none⟩ = some (.string pb) := hSw.kept.cell HCB.out (fun e => hbpw (by injection e)); go_simp); (try (with_reducible rfl)))
                    try simp only [Act.put, List.setIfInBounds_toArray, List.set_cons_zero, List.set_cons_succ]
                    refine ht_take 5 (v := ?vf_6) rfl (by kernel_rfl) (fun _ _ _ h => h) (Or.inl ⟨by rfl, ?hf_6⟩) hHeld ?rf_6
                    case hf_6 => ((intro U hSw; have y3 : U.cell? ⟨w.heap.size, 3, none⟩ = some (.slice (some ⟨bp, 0, none⟩) m2.parts.length cP) := hSw.main.cell 3; have yA : U.cell? ⟨bp, a * 2, none⟩ = some (.string pa) := hSw.kept.cell HCA.out (fun e => hbpw (by injection e)); have yB : U.cell? ⟨bp, b * 2, none⟩ = some (.string pb) := hSw.kept.cell HCB.out (fun e => hbpw (by injection e)); go_simp); (try (with_reducible rfl)))
                    try simp only [Act.put, List.setIfInBounds_toArray, List.set_cons_zero, List.set_cons_succ]
                    refine ht_take 6 (v := ?vf_7) rfl (by kernel_rfl) (fun _ _ _ h => h) (Or.inl ⟨by rfl, ?hf_7⟩) hHeld ?rf_7
                    case hf_7 => ((intro U hSw; have y3 : U.cell? ⟨w.heap.size, 3, none⟩ = some (.slice (some ⟨bp, 0, none⟩) m2.parts.length cP) := hSw.main.cell 3; have yA : U.cell? ⟨bp, a * 2, none⟩ = some (.string pa) := hSw.kept.cell HCA.out (fun e => hbpw (by injection e)); have yB : U.cell? ⟨bp, b * 2, none⟩ = some (.string pb) := hSw.kept.cell HCB.out (fun e => hbpw (by injection e)); go_simp); (try (with_reducible rfl)))
                    try simp only [Act.put, List.setIfInBounds_toArray, List.set_cons_zero, List.set_cons_succ]
                    refine ht_take 7 (v := ?vf_8) rfl (by kernel_rfl) (fun _ _ _ h => h) (Or.inl ⟨by rfl, ?hf_8⟩) hHeld ?rf_8
                    case hf_8 => ((intro U hSw; have y3 : U.cell? ⟨w.heap.size, 3, none⟩ = some (.slice (some ⟨bp, 0, none⟩) m2.parts.length cP) := hSw.main.cell 3; have yA : U.cell? ⟨bp, a * 2, none⟩ = some (.string pa) := hSw.kept.cell HCA.out (fun e => hbpw (by injection e)); have yB : U.cell? ⟨bp, b * 2, none⟩ = some (.string pb) := hSw.kept.cell HCB.out (fun e => hbpw (by injection e)); go_simp); (try (with_reducible rfl)))
                    try simp only [Act.put, List.setIfInBounds_toArray, List.set_cons_zero, List.set_cons_succ]
                    refine ht_take 8 (v := ?vf_9) rfl (by kernel_rfl) (fun _ _ _ h => h) (Or.inl ⟨by rfl, ?hf_9⟩) hHeld ?rf_9
                    case hf_9 => ((intro U hSw; have y3 : U.cell? ⟨w.heap.size, 3, none⟩ = some (.slice (some ⟨bp, 0, none⟩) m2.parts.length cP) := hSw.main.cell 3; have yA : U.cell? ⟨bp, a * 2, none⟩ = some (.string pa) := hSw.kept.cell HCA.out (fun e => hbpw (by injection e)); have yB : U.cell? ⟨bp, b * 2, none⟩ = some (.string pb) := hSw.kept.cell HCB.out (fun e => hbpw (by injection e)); go_simp); (try (with_reducible rfl)))
                    try simp only [Act.put, List.setIfInBounds_toArray, List.set_cons_zero, List.set_cons_succ]
                    refine ht_take 9 (v := ?vf_10) rfl (by kernel_rfl) (fun _ _ _ h => h) (Or.inl ⟨by rfl, ?hf_10⟩) hHeld ?rf_10
                    case hf_10 => ((intro U hSw; have y3 : U.cell? ⟨w.heap.size, 3, none⟩ = some (.slice (some ⟨bp, 0, none⟩) m2.parts.length cP) := hSw.main.cell 3; have yA : U.cell? ⟨bp, a * 2, none⟩ = some (.string pa) := hSw.kept.cell HCA.out (fun e => hbpw (by injection e)); have yB : U.cell? ⟨bp, b * 2, none⟩ = some (.string pb) := hSw.kept.cell HCB.out (fun e => hbpw (by injection e)); go_simp); (try (with_reducible rfl)))
                    try simp only [Act.put, List.setIfInBounds_toArray, List.set_cons_zero, List.set_cons_succ]
                    refine ht_take 10 (v := ?vf_11) rfl (by kernel_rfl) (fun _ _ _ h => h) (Or.inl ⟨by rfl, ?hf_11⟩) hHeld ?rf_11
                    case hf_11 => ((intro U hSw; have y3 : U.cell? ⟨w.heap.size, 3, none⟩ = some (.slice (some ⟨bp, 0, none⟩) m2.parts.length cP) := hSw.main.cell 3; have yA : U.cell? ⟨bp, a * 2, none⟩ = some (.string pa) := hSw.kept.cell HCA.out (fun e => hbpw (by injection e)); have yB : U.cell? ⟨bp, b * 2, none⟩ = some (.string pb) := hSw.kept.cell HCB.out (fun e => hbpw (by injection e)); go_simp); (try (with_reducible rfl)))
                    try simp only [Act.put, List.setIfInBounds_toArray, List.set_cons_zero, List.set_cons_succ]
                    refine ht_take 11 (v := ?vf_12) rfl (by kernel_rfl) (fun _ _ _ h => h) (Or.inl ⟨by rfl, ?hf_12⟩) hHeld ?rf_12
                    case hf_12 => ((intro U hSw; have y3 : U.cell? ⟨w.heap.size, 3, none⟩ = some (.slice (some ⟨bp, 0, none⟩) m2.parts.length cP) := hSw.main.cell 3; have yA : U.cell? ⟨bp, a * 2, none⟩ = some (.string pa) := hSw.kept.cell HCA.out (fun e => hbpw (by injection e)); have yB : U.cell? ⟨bp, b * 2, none⟩ = some (.string pb) := hSw.kept.cell HCB.out (fun e => hbpw (by injection e)); go_simp); (try (with_reducible rfl)))
                    try simp only [Act.put, List.setIfInBounds_toArray, List.set_cons_zero, List.set_cons_succ]
                    refine ht_take 12 (v := ?vf_13) rfl (by kernel_rfl) (fun _ _ _ h => h) (Or.inl ⟨by rfl, ?hf_13⟩) hHeld ?rf_13
                    case hf_13 => ((intro U hSw; have y3 : U.cell? ⟨w.heap.size, 3, none⟩ = some (.slice (some ⟨bp, 0, none⟩) m2.parts.length cP) := hSw.main.cell 3; have yA : U.cell? ⟨bp, a * 2, none⟩ = some (.string pa) := hSw.kept.cell HCA.out (fun e => hbpw (by injection e)); have yB : U.cell? ⟨bp, b * 2, none⟩ = some (.string pb) := hSw.kept.cell HCB.out (fun e => hbpw (by injection e)); go_simp); (try (with_reducible rfl)))
                    try simp only [Act.put, List.setIfInBounds_toArray, List.set_cons_zero, List.set_cons_succ]
                    refine ht_take 13 (v := ?vf_14) rfl (by kernel_rfl) (fun _ _ _ h => h) (Or.inl ⟨by rfl, ?hf_14⟩) hHeld ?rf_14
                    case hf_14 => ((intro U hSw; have y3 : U.cell? ⟨w.heap.size, 3, none⟩ = some (.slice (some ⟨bp, 0, none⟩) m2.parts.length cP) := hSw.main.cell 3; have yA : U.cell? ⟨bp, a * 2, none⟩ = some (.string pa) := hSw.kept.cell HCA.out (fun e => hbpw (by injection e)); have yB : U.cell? ⟨bp, b * 2, none⟩ = some (.string pb) := hSw.kept.cell HCB.out (fun e => hbpw (by injection e)); go_simp); (try (with_reducible rfl)))
                    try simp only [Act.put, List.setIfInBounds_toArray, List.set_cons_zero, List.set_cons_succ]
                    refine ht_take 14 (v := ?vf_15) rfl (by kernel_rfl) (fun _ _ _ h => h) (Or.inl ⟨by rfl, ?hf_15⟩) hHeld ?rf_15
                    case hf_15 => ((intro U hSw; have y3 : U.cell? ⟨w.heap.size, 3, none⟩ = some (.slice (some ⟨bp, 0, none⟩) m2.parts.length cP) := hSw.main.cell 3; have yA : U.cell? ⟨bp, a * 2, none⟩ = some (.string pa) := hSw.kept.cell HCA.out (fun e => hbpw (by injection e)); have yB : U.cell? ⟨bp, b * 2, none⟩ = some (.string pb) := hSw.kept.cell HCB.out (fun e => hbpw (by injection e)); go_simp); (try (with_reducible rfl)))
                    try simp only [Act.put, List.setIfInBounds_toArray, List.set_cons_zero, List.set_cons_succ]
                    refine ht_one 15 rfl (by kernel_rfl) (fun K hK => ?_)
                    go_simp
                    refine hK.out _ _ (hHeld.below ((Below.refl _ _).alloc (Nat.le_refl _) _)) (fun hHeld => ?_)
                    clear hK K
                    try simp only [Act.put, List.setIfInBounds_toArray, List.set_cons_zero, List.set_cons_succ]
                    refine ht_one 16 rfl (by kernel_rfl) (fun K hK => ?_)
                    refine step_append_lies _ (by rfl) (.tmp 111) (.tmp 126) _ (by rfl) (V2.heap.size + 2) 40 i0 _ 4 64 Try.underlying24 hi0 hz0 hz1 hz2 rfl (by omega) (.slice A8 L1.length c8) L1.length xl (by rfl) (HO7.out.alloc _) ⟨V7.heap.size, 0, none⟩ 1 1 [.string gg, .string pb, .string pa, .string ⟨#[109, 100]⟩] (by rfl) (by rfl) (World.news_of_block (cs := #[.string gg, .string pb, .string pa, .string ⟨#[109, 100]⟩]) (t := 40) (fr := (0, 0)) (heap_alloc_new V7.drew _)) (by simp [Value.oneCell']) (by omega) (by unfold maxLen; omega) (by omega) (by simp <;> omega) (V7.heap.size + 1) (by simp) ?_
                    intro g9 c9 w9 hown9 hgrow9 _ _
                    refine hK.out _ _ (⟨hHeld.main.grown hgrow9 (Ne.symm (blk_own_ne (HO7.out.alloc _) hHeld.main (by decide))), hHeld.res.grown hgrow9 (Ne.symm (blk_own_ne (HO7.out.alloc _) hHeld.res (by decide))), grown_grow hHeld.kept hgrow9 (fun k hk => .inl (by have := (HO7.out.lt k hk).1; omega))⟩) (fun hHeld => ?_)
                    clear hK K
                    try simp only [Act.put, List.setIfInBounds_toArray, List.set_cons_zero, List.set_cons_succ]
                    refine ht_done (by kernel_rfl) rfl ?_
                    have HI9 := Lib.hid ((HI7.out.below ((Below.refl _ _).drew.alloc (Nat.le_refl _) (.cells #[.string gg, .string pb, .string pa, .string ⟨#[109, 100]⟩] 40))).row hgrow9 (HO7.out.alloc _))
                    have HF9 := Lib.hid (FL.of (w := V2) (x := ⟨gg, pb, pa, ⟨#[109, 100]⟩⟩) hown9 (Nat.le_refl _) (RdL.flat (flow_flat _) HLL.out))
                    have HT9 := Lib.hid hHeld
                    clear hHeld hown9 hgrow9
                    go_wp2_with fail
                    go_meet
                    case rel => exact ⟨_, _, by rw [HXN.out], HT9.out, HI9.out, by rw [HX.out]; exact HF9.out⟩
                  case rest =>
                    obtain ⟨A9, c9, rfl, hT8, hI8, hF8⟩ := hcut
                    have HT8 := Lib.hid hT8
                    have HI8 := Lib.hid hI8
                    have HF8 := Lib.hid hF8
                    clear hT8 hI8 hF8
                    go_wp2_with fail
                    go_meet
                    case rel =>
                      rw [HY.out, HZ.out]
                      exact ⟨_, _, _, _, rfl, HT8.out, HI8.out, HF8.out⟩
          case rest =>
            obtain ⟨AF3, cF3, A9, c9, rfl, hT8, hI8, hF8⟩ := hcut
            obtain ⟨V8, rfl⟩ : ∃ V, V = wc := ⟨_, rfl⟩
            have hpa3 : m3.parts = m2.parts := by rw [HM3.out]; split <;> rfl
            have hit3 : m3.items = m2.items := by rw [HM3.out]; split <;> rfl
            have hse3 : m3.seqs = m2.seqs := by rw [HM3.out]; split <;> rfl
            obtain ⟨m4, hm4⟩ : ∃ M : MkD, M = ⟨m3.p, m3.at_, m3.n, m3.parts, L3, m3.items, m3.seqs, m3.pre⟩ := ⟨_, rfl⟩
            have hP9 : PW w A cap m4 (V8.setCell ⟨w.heap.size, 4, none⟩ (.slice A9 L3.length c9)) := by
              have hg : V8.grownBy (V8.setCell ⟨w.heap.size, 4, none⟩ (.slice A9 L3.length c9)) (some w.heap.size) := only_setQ _
              have hk := grown_grow hT8.kept hg (fun k hk => .inr hk)
              have hCo := HC.out.grown hk HB.out
              have hWb := HWb.out
              rw [hm4]
              refine ⟨_, _, A9, c9, _, _, _, _, hT8.main.set_ 4 _, hT8.res.far (by show w.heap.size + 1 ≠ w.heap.size; omega) _, ⟨?_, (hF8.grown hg hT8.main).rd, ?_, ?_⟩, ⟨hk.os.trans hWb.os, hk.tape.trans hWb.tape, hk.output.trans hWb.output, Nat.le_trans hWb.size hk.size, fun k hkk => (hk.block k (Nat.lt_of_lt_of_le hkk hWb.size) (fun e => by injection e with e; omega)).trans (hWb.block k hkk)⟩⟩
              · show Rd _ (partsD m3.parts) _
                rw [hpa3]; exact hCo.parts
              · show Rd _ (itemsD m3.items) _
                rw [hit3]; exact hCo.items
              · show Rd _ (seqsD m3.seqs) _
                rw [hse3]; exact hCo.seqs
            have hI9 : TI w t pa pb lp fl3 (.slice AF3 fl3.length cF3) gI gP (V8.setCell ⟨w.heap.size, 4, none⟩ (.slice A9 L3.length c9)) := hI8.grown (only_setQ _) hT8.main
            have hres : gtaskF m x = gitemF m4 ⟨3, t, pa, [pa, pb], fl3, lp, ⟨#[]⟩, [], [], []⟩ := by
              rw [hm4, HM3.out, HL3.out, HFL3.out, HL1.out, HGG.out, HM2.out, HT.out, HF.out, HPA.out, HPB.out, HLP.out, HMS.out, HA.out, HBb.out]
              unfold gtaskF gitemF gtaskL gtaskI
              cases gback x <;> simp [gnamedF]
            have hs4 : SmallM 10000 m4 := by
              have h := HS2.out
              have hL := HL1N.out
              have hLL : L3.length ≤ L1.length + 1 := by rw [HL3.out]; split <;> simp
              have hf2 := h.flows
              rw [hm4, HM3.out]
              split
              · exact ⟨h.pre, h.pl, by have := h.at_; show m2.at_ ≤ _; omega, by have := h.n; show m2.n + 1 ≤ _; omega, by show L3.length ≤ _; omega, by have := h.items; show m2.items.length ≤ _; omega, by have := h.seqs; show m2.seqs.length ≤ _; omega⟩
              · exact ⟨h.pre, h.pl, by have := h.at_; show m2.at_ ≤ _; omega, by have := h.n; show m2.n ≤ _; omega, by show L3.length ≤ _; omega, by have := h.items; show m2.items.length ≤ _; omega, by have := h.seqs; show m2.seqs.length ≤ _; omega⟩
            have hB8 := hT8.main
            have y0 : V8.cell? ⟨w.heap.size, 0, none⟩ = some (.slice A m3.p.length cap) := hB8.cell 0
            have y1 : V8.cell? ⟨w.heap.size, 1, none⟩ = some (.int .i64 m3.at_) := hB8.cell 1
            have y2 : V8.cell? ⟨w.heap.size, 2, none⟩ = some (.int .i64 m3.n) := hB8.cell 2
            have y3 : V8.cell? ⟨w.heap.size, 3, none⟩ = some (.slice (some ⟨bp, 0, none⟩) m3.parts.length cP) := hB8.cell 3
            have y4 : V8.cell? ⟨w.heap.size, 4, none⟩ = some (.slice AF m3.flows.length cF) := hB8.cell 4
            have y5 : V8.cell? ⟨w.heap.size, 5, none⟩ = some (.slice AI m3.items.length cI) := hB8.cell 5
            have y6 : V8.cell? ⟨w.heap.size, 6, none⟩ = some (.slice AS m3.seqs.length cS) := hB8.cell 6
            have y7 : V8.cell? ⟨w.heap.size, 7, none⟩ = some (.string m3.pre) := hB8.cell 7
            have q0 := hB8.frozen 0
            have q1 := hB8.frozen 1
            have q2 := hB8.frozen 2
            have q3 := hB8.frozen 3
            have q4 := hB8.frozen 4
            have q5 := hB8.frozen 5
            have q6 := hB8.frozen 6
            have q7 := hB8.frozen 7
            have hl8 := hB8.lt
            have HP9 := Lib.hid hP9
            have HI9 := Lib.hid hI9
            have HRES := Lib.hid hres
            have HS4 := Lib.hid hs4
            clear hP9 hI9 hres hs4 hpa3 hit3 hse3 hm4 hT8 hI8 hF8 hB8
            go_upto_region 13 with fail
            go_cut [] (fun wx => PW w A cap m4 wx ∧ TI w t pa pb lp fl3 (.slice AF3 fl3.length cF3) gI gP wx)
            case first =>
              go_wp2_with fail
              go_meet
              case rel => exact ⟨HP9.out, HI9.out⟩
            case rest =>
              clear y0 y1 y2 y3 y4 y5 y6 y7 q0 q1 q2 q3 q4 q5 q6 q7 HP9 HI9
              obtain ⟨hP9, hI9⟩ := hcut
              obtain ⟨V9, rfl⟩ : ∃ V, V = wc := ⟨_, rfl⟩
              obtain ⟨AP, cP, AF, cF, AI, cI, AS, cS, hB, hR, hC9, hW⟩ := hP9
              have HMK := Lib.hid (show MkR V9 A cap m4 _ from ⟨AP, cP, AF, cF, AI, cI, AS, cS, rfl, hC9⟩)
              have HIR := Lib.hid hI9.item
              have hBI := hI9.bI
              have y0 : V9.cell? ⟨w.heap.size, 0, none⟩ = some (.slice A m4.p.length cap) := hB.cell 0
              have y1 : V9.cell? ⟨w.heap.size, 1, none⟩ = some (.int .i64 m4.at_) := hB.cell 1
              have y2 : V9.cell? ⟨w.heap.size, 2, none⟩ = some (.int .i64 m4.n) := hB.cell 2
              have y3 : V9.cell? ⟨w.heap.size, 3, none⟩ = some (.slice AP m4.parts.length cP) := hB.cell 3
              have y4 : V9.cell? ⟨w.heap.size, 4, none⟩ = some (.slice AF m4.flows.length cF) := hB.cell 4
              have y5 : V9.cell? ⟨w.heap.size, 5, none⟩ = some (.slice AI m4.items.length cI) := hB.cell 5
              have y6 : V9.cell? ⟨w.heap.size, 6, none⟩ = some (.slice AS m4.seqs.length cS) := hB.cell 6
              have y7 : V9.cell? ⟨w.heap.size, 7, none⟩ = some (.string m4.pre) := hB.cell 7
              have t0 : V9.cell? ⟨gI, 0, none⟩ = some (.int .i64 3) := hBI.cell 0
              have t1 : V9.cell? ⟨gI, 1, none⟩ = some (.string t) := hBI.cell 1
              have t2 : V9.cell? ⟨gI, 2, none⟩ = some (.string pa) := hBI.cell 2
              have t3 : V9.cell? ⟨gI, 3, none⟩ = some (.slice (some ⟨gP, 0, none⟩) 2 2) := hBI.cell 3
              have t4 : V9.cell? ⟨gI, 4, none⟩ = some (.slice AF3 fl3.length cF3) := hBI.cell 4
              have t5 : V9.cell? ⟨gI, 5, none⟩ = some (.bool lp) := hBI.cell 5
              have t6 : V9.cell? ⟨gI, 6, none⟩ = some (.string ⟨#[]⟩) := hBI.cell 6
              have t7 : V9.cell? ⟨gI, 7, none⟩ = some (.slice none 0 0) := hBI.cell 7
              have t8 : V9.cell? ⟨gI, 8, none⟩ = some (.slice none 0 0) := hBI.cell 8
              have t9 : V9.cell? ⟨gI, 9, none⟩ = some (.slice none 0 0) := hBI.cell 9
              have HR9 := Lib.hid hR
              have HW9 := Lib.hid hW
              have hlm := hB.lt
              have hli := hBI.lt
              have hsz9 := hW.size
              clear hB hR hC9 hW hI9 hBI
              go_wp2_with fail
              refine (item_any HMK.out HIR.out HS4.out).mono ?_
              rintro e w1 ⟨cc, rfl, hM1, hb1⟩
              rw [← HRES.out] at hM1
              obtain ⟨m5, hm5⟩ : ∃ M, M = gtaskF m x := ⟨_, rfl⟩
              rw [← hm5] at hM1
              obtain ⟨AP1, cP1, AF1, cF1, AI1, cI1, AS1, cS1, rfl, hC1⟩ := hM1
              have hR1 := HR9.out.below hb1 HR9.out.lt
              have z0 : w1.cell? ⟨w.heap.size + 1, 0, none⟩ = some (.slice none 0 0) := hR1.cell 0
              have z1 : w1.cell? ⟨w.heap.size + 1, 1, none⟩ = some (.int .i64 0) := hR1.cell 1
              have z2 : w1.cell? ⟨w.heap.size + 1, 2, none⟩ = some (.int .i64 0) := hR1.cell 2
              have z3 : w1.cell? ⟨w.heap.size + 1, 3, none⟩ = some (.slice none 0 0) := hR1.cell 3
              have z4 : w1.cell? ⟨w.heap.size + 1, 4, none⟩ = some (.slice none 0 0) := hR1.cell 4
              have z5 : w1.cell? ⟨w.heap.size + 1, 5, none⟩ = some (.slice none 0 0) := hR1.cell 5
              have z6 : w1.cell? ⟨w.heap.size + 1, 6, none⟩ = some (.slice none 0 0) := hR1.cell 6
              have z7 : w1.cell? ⟨w.heap.size + 1, 7, none⟩ = some (.string ⟨#[]⟩) := hR1.cell 7
              have q0 := hR1.frozen 0
              have q1 := hR1.frozen 1
              have q2 := hR1.frozen 2
              have q3 := hR1.frozen 3
              have q4 := hR1.frozen 4
              have q5 := hR1.frozen 5
              have q6 := hR1.frozen 6
              have q7 := hR1.frozen 7
              have hl1 := hR1.lt
              have HC1 := Lib.hid hC1
              have HR1 := Lib.hid hR1
              have HB1 := Lib.hid (HW9.out.trans (hb1.mono hsz9))
              have HM5 := Lib.hid hm5
              clear y0 y1 y2 y3 y4 y5 y6 y7 t0 t1 t2 t3 t4 t5 t6 t7 t8 t9 hC1 hR1 hb1 hm5
              go_wp2_with fail
              have hblk := putAll_blk [.slice A m5.p.length cap, .int .i64 m5.at_, .int .i64 m5.n, .slice AP1 m5.parts.length cP1, .slice AF1 m5.flows.length cF1, .slice AI1 m5.items.length cI1, .slice AS1 m5.seqs.length cS1, .string m5.pre] 0 w1 _ HR1.out rfl
              have hend : MkEnd w A cap (.string (gnameF m chT)) (gtaskF m x) (.returned (.tuple #[.string t, .agg #[.slice A m5.p.length cap, .int .i64 m5.at_, .int .i64 m5.n, .slice AP1 m5.parts.length cP1, .slice AF1 m5.flows.length cF1, .slice AI1 m5.items.length cI1, .slice AS1 m5.seqs.length cS1, .string m5.pre]])) (putAll w1 (w.heap.size + 1) 0 [.slice A m5.p.length cap, .int .i64 m5.at_, .int .i64 m5.n, .slice AP1 m5.parts.length cP1, .slice AF1 m5.flows.length cF1, .slice AI1 m5.items.length cI1, .slice AS1 m5.seqs.length cS1, .string m5.pre]) := by
                have hb2 := putAll_below (B := w.heap.size) (g := w.heap.size + 1) (by omega) [.slice A m5.p.length cap, .int .i64 m5.at_, .int .i64 m5.n, .slice AP1 m5.parts.length cP1, .slice AF1 m5.flows.length cF1, .slice AI1 m5.items.length cI1, .slice AS1 m5.seqs.length cS1, .string m5.pre] 0 _ HB1.out
                rw [← HT.out, ← HM5.out]
                exact ⟨_, rfl, ⟨AP1, cP1, AF1, cF1, AI1, cI1, AS1, cS1, rfl, HC1.out.grown (putAll_grown _ w1) HR1.out⟩, hb2⟩
              exact bodyPost_ret (ret_task hblk rfl rfl) rfl hend
end Go.Proofs.Yteoioboiniealaa
