/- The contract of the generator's level. -/
import Derived.Test.YteoioboiniealaaGenI
namespace Go.Proofs.Yteoioboiniealaa
open Go.RowKit
attribute [local go_sem ↓] Go.wp_at_zero Go.wp_at_succ

theorem MkR.fin1 {w V w1 : World} {A : Option Addr} {cap : Nat} {M : MkD} {AP : Option Addr} {cP : Nat} {AF : Option Addr} {cF : Nat} {AI : Option Addr} {cI : Nat} {AS : Option Addr} {cS : Nat} (hR : Blk V (w.heap.size + 1) 89 #[.slice none 0 0, .int .i64 0, .int .i64 0, .slice none 0 0, .slice none 0 0, .slice none 0 0, .slice none 0 0, .string ⟨#[]⟩]) (hW : Below w.heap.size w V) (hb : Below V.heap.size V w1) (hC : Comp w1 M.parts M.flows M.items M.seqs AP cP AF cF AI cI AS cS) :
    MkEnd1 w A cap M (.returned (.agg #[.slice A M.p.length cap, .int .i64 M.at_, .int .i64 M.n, .slice AP M.parts.length cP, .slice AF M.flows.length cF, .slice AI M.items.length cI, .slice AS M.seqs.length cS, .string M.pre])) (putAll w1 (w.heap.size + 1) 0 [.slice A M.p.length cap, .int .i64 M.at_, .int .i64 M.n, .slice AP M.parts.length cP, .slice AF M.flows.length cF, .slice AI M.items.length cI, .slice AS M.seqs.length cS, .string M.pre]) :=
  ⟨_, rfl, ⟨AP, cP, AF, cF, AI, cI, AS, cS, rfl, hC.grown (putAll_grown _ w1) (hR.below hb hR.lt)⟩, putAll_below (B := w.heap.size) (g := w.heap.size + 1) (by omega) _ 0 _ (hW.trans (hb.mono hW.size))⟩
theorem ret_level {W : World} {g : Nat} {v0 v1 v2 v3 v4 v5 v6 v7 : Value} {tmps : Array Value} (h : Blk W g 89 #[v0, v1, v2, v3, v4, v5, v6, v7]) (ht : tmps.getD 4 undef = .pointer (some ⟨g, 0, none⟩)) :
    (results Try.f37 tmps).run Try.prog W = .ok (.agg #[v0, v1, v2, v3, v4, v5, v6, v7]) W := by
  have x0 : W.cell? ⟨g, 0, none⟩ = some v0 := h.cell 0
  have x1 : W.cell? ⟨g, 1, none⟩ = some v1 := h.cell 1
  have x2 : W.cell? ⟨g, 2, none⟩ = some v2 := h.cell 2
  have x3 : W.cell? ⟨g, 3, none⟩ = some v3 := h.cell 3
  have x4 : W.cell? ⟨g, 4, none⟩ = some v4 := h.cell 4
  have x5 : W.cell? ⟨g, 5, none⟩ = some v5 := h.cell 5
  have x6 : W.cell? ⟨g, 6, none⟩ = some v6 := h.cell 6
  have x7 : W.cell? ⟨g, 7, none⟩ = some v7 := h.cell 7
  simp [results, Try.results37, go_sem, ht, x0, x1, x2, x3, x4, x5, x6, x7, -Array.getD_eq_getD_getElem?]
theorem grow_level (m : MkD) (d : Nat) : GrowM (gG d + 5) m (glevelF m d) := by
  unfold glevelF
  dsimp only
  exact (((((grow_named m).trans (grow_item _ _)).trans (grow_part d _ _)).trans (grow_named _)).trans ((grow_item _ _).trans (grow_seq _ _ _))).mono (by omega)

set_option maxRecDepth 100000 in
set_option maxHeartbeats 16000000 in
theorem level_any {w : World} {A : Option Addr} {cap : Nat} {m : MkD} {c : Array Value} {K : Nat} (hp : IntsAt w A m.p) (hM : MkR w A cap m c) (hs : SmallM K m) (d : Nat) (hK : K + gG d ≤ 6990) (h2 : 2 ≤ m.parts.length) (h4 : m.parts.length ≤ 4) :
    Calls Try.prog 37 #[.agg c, .int .i64 d] w (MkEnd1 w A cap (glevelF m d)) := by
  obtain ⟨AP, cP, AF, cF, AI, cI, AS, cS, rfl, hC⟩ := hM
  have hgp := gG_pos d
  have hgd := gG_ge d
  have hd7 : d ≤ 7000 := by omega
  have HIA := Lib.hid hp
  have HSm := Lib.hid hs
  obtain ⟨a, ha⟩ : ∃ z, z = gnameF m chB_ := ⟨_, rfl⟩
  obtain ⟨m1, hm1⟩ : ∃ M, M = gnamedF m := ⟨_, rfl⟩
  obtain ⟨m2, hm2⟩ : ∃ M, M = gitemF m1 (gitem0 1 a) := ⟨_, rfl⟩
  obtain ⟨b, hb⟩ : ∃ z, z = (gpartF d m2 a).1 := ⟨_, rfl⟩
  obtain ⟨m3, hm3⟩ : ∃ M, M = (gpartF d m2 a).2 := ⟨_, rfl⟩
  obtain ⟨e, he⟩ : ∃ z, z = gnameF m3 chE := ⟨_, rfl⟩
  obtain ⟨m4, hm4⟩ : ∃ M, M = gnamedF m3 := ⟨_, rfl⟩
  obtain ⟨m9, hm9⟩ : ∃ M, M = gseqF (gitemF m4 (gitem0 2 e)) b e := ⟨_, rfl⟩
  have heq : glevelF m d = m9 := by rw [hm9, hm4, he, hm3, hb, hm2, ha, hm1]; rfl
  have hg1 : GrowM 1 m m1 := by rw [hm1]; exact grow_named _
  have hg2 : GrowM 1 m1 m2 := by rw [hm2]; exact grow_item _ _
  have hg3 : GrowM (gG d) m2 m3 := by rw [hm3]; exact grow_part _ _ _
  have hg4 : GrowM 1 m3 m4 := by rw [hm4]; exact grow_named _
  have HSm1 := Lib.hid (hg1.small hs)
  have HSm2 := Lib.hid (hg2.small HSm1.out)
  have HSm3 := Lib.hid (hg3.small HSm2.out)
  have HSm4 := Lib.hid (hg4.small HSm3.out)
  have HIAm2 : Hid (IntsAt w A m2.p) := Lib.hid (by rw [hg2.p, hg1.p]; exact hp)
  have HQ2m2 : Hid (2 ≤ m2.parts.length) := Lib.hid (by rw [hg2.parts, hg1.parts]; exact h2)
  have HQ4m2 : Hid (m2.parts.length ≤ 4) := Lib.hid (by rw [hg2.parts, hg1.parts]; exact h4)
  have HA := Lib.hid ha
  have HM1 := Lib.hid hm1
  have HM2 := Lib.hid hm2
  have HB0x := Lib.hid hb
  have HM3 := Lib.hid hm3
  have HEx := Lib.hid he
  have HM4 := Lib.hid hm4
  have HM9 := Lib.hid hm9
  have HEQ := Lib.hid heq
  have HKK := Lib.hid hK
  obtain ⟨W, hW⟩ : ∃ W, W = (w.alloc (.cells #[.slice A m.p.length cap, .int .i64 m.at_, .int .i64 m.n, .slice AP m.parts.length cP, .slice AF m.flows.length cF, .slice AI m.items.length cI, .slice AS m.seqs.length cS, .string m.pre] 89)).alloc (.cells #[.slice none 0 0, .int .i64 0, .int .i64 0, .slice none 0 0, .slice none 0 0, .slice none 0 0, .slice none 0 0, .string ⟨#[]⟩] 89) := ⟨_, rfl⟩
  have hP : PW w A cap m W := by
    have h1 : Blk W w.heap.size 89 #[.slice A m.p.length cap, .int .i64 m.at_, .int .i64 m.n, .slice AP m.parts.length cP, .slice AF m.flows.length cF, .slice AI m.items.length cI, .slice AS m.seqs.length cS, .string m.pre] := by rw [hW]; exact (Blk.new w _ _).alloc _
    have h2 : Blk W (w.heap.size + 1) 89 #[.slice none 0 0, .int .i64 0, .int .i64 0, .slice none 0 0, .slice none 0 0, .slice none 0 0, .slice none 0 0, .string ⟨#[]⟩] := by
      rw [hW]
      have := Blk.new (w.alloc (.cells #[.slice A m.p.length cap, .int .i64 m.at_, .int .i64 m.n, .slice AP m.parts.length cP, .slice AF m.flows.length cF, .slice AI m.items.length cI, .slice AS m.seqs.length cS, .string m.pre] 89)) 89 #[.slice none 0 0, .int .i64 0, .int .i64 0, .slice none 0 0, .slice none 0 0, .slice none 0 0, .slice none 0 0, .string ⟨#[]⟩]
      simpa using this
    have hb : Below w.heap.size w W := by rw [hW]; exact ((Below.refl _ _).alloc (Nat.le_refl _) _).alloc (by simp) _
    exact ⟨AP, cP, AF, cF, AI, cI, AS, cS, h1, h2, hC.below hb, hb⟩
  have HPW := Lib.hid hP
  have HW := Lib.hid hW.symm
  clear hC hs hP hW hp ha hm1 hm2 hb hm3 he hm4 hm9 heq hg1 hg2 hg3 hg4 hK h2 h4 hgp hgd
  go_enter Try.func37, Try.ntmps37
  go_upto_region 2 with fail
  rw [HW.out]
  go_upto_region 2 with fail
  go_cut [5] (fun v0x wx => v0x = .string (gnameF m chB_) ∧ PW w A cap (gnamedF m) wx)
  case first =>
    obtain ⟨AP, cP, AF, cF, AI, cI, AS, cS, hB, hR, hC, hW⟩ := HPW.out
    have y0 : W.cell? ⟨w.heap.size, 0, none⟩ = some (.slice A m.p.length cap) := hB.cell 0
    have y1 : W.cell? ⟨w.heap.size, 1, none⟩ = some (.int .i64 m.at_) := hB.cell 1
    have y2 : W.cell? ⟨w.heap.size, 2, none⟩ = some (.int .i64 m.n) := hB.cell 2
    have y3 : W.cell? ⟨w.heap.size, 3, none⟩ = some (.slice AP m.parts.length cP) := hB.cell 3
    have y4 : W.cell? ⟨w.heap.size, 4, none⟩ = some (.slice AF m.flows.length cF) := hB.cell 4
    have y5 : W.cell? ⟨w.heap.size, 5, none⟩ = some (.slice AI m.items.length cI) := hB.cell 5
    have y6 : W.cell? ⟨w.heap.size, 6, none⟩ = some (.slice AS m.seqs.length cS) := hB.cell 6
    have y7 : W.cell? ⟨w.heap.size, 7, none⟩ = some (.string m.pre) := hB.cell 7
    have HMK0 := Lib.hid (show MkR W A cap m _ from ⟨AP, cP, AF, cF, AI, cI, AS, cS, rfl, hC⟩)
    have HBB := Lib.hid hB
    have HRR := Lib.hid hR
    have HBL0 := Lib.hid hW
    have hgl := hB.lt
    have hgr := hR.lt
    have hszp := hW.size
    clear hB hR hC hW
    have HB0 := Lib.hid (Below.refl W.heap.size W)
    go_wp2_with fail
    refine (name_any HMK0.out (HSm.out.mono (by have := HKK.out; omega)) chB_ (by decide)).mono ?_
    rintro e w1 ⟨c1, rfl, hM1, hb1⟩
    have HB1 := Lib.hid (HB0.out.trans (hb1.mono HB0.out.size))
    have HBL1 := Lib.hid (HBL0.out.trans (hb1.mono HBL0.out.size))
    clear hb1
    obtain ⟨AP1, cP1, AF1, cF1, AI1, cI1, AS1, cS1, rfl, hC1⟩ := hM1
    have HP1 := Lib.hid (HPW.out.put (m' := gnamedF m) HB1.out hC1)
    have hB2 := HBB.out.below HB1.out HBB.out.lt
    have z0 : w1.cell? ⟨w.heap.size, 0, none⟩ = some (.slice A m.p.length cap) := hB2.cell 0
    have z1 : w1.cell? ⟨w.heap.size, 1, none⟩ = some (.int .i64 m.at_) := hB2.cell 1
    have z2 : w1.cell? ⟨w.heap.size, 2, none⟩ = some (.int .i64 m.n) := hB2.cell 2
    have z3 : w1.cell? ⟨w.heap.size, 3, none⟩ = some (.slice AP m.parts.length cP) := hB2.cell 3
    have z4 : w1.cell? ⟨w.heap.size, 4, none⟩ = some (.slice AF m.flows.length cF) := hB2.cell 4
    have z5 : w1.cell? ⟨w.heap.size, 5, none⟩ = some (.slice AI m.items.length cI) := hB2.cell 5
    have z6 : w1.cell? ⟨w.heap.size, 6, none⟩ = some (.slice AS m.seqs.length cS) := hB2.cell 6
    have z7 : w1.cell? ⟨w.heap.size, 7, none⟩ = some (.string m.pre) := hB2.cell 7
    have q0 := hB2.frozen 0
    have q1 := hB2.frozen 1
    have q2 := hB2.frozen 2
    have q3 := hB2.frozen 3
    have q4 := hB2.frozen 4
    have q5 := hB2.frozen 5
    have q6 := hB2.frozen 6
    have q7 := hB2.frozen 7
    have hgl1 := hB2.lt
    clear y0 y1 y2 y3 y4 y5 y6 y7 hB2 hC1
    go_wp2_with fail
    go_meet
    case rel => exact ⟨rfl, HP1.out⟩
  case rest =>
    obtain ⟨rfl, hP⟩ := hcut
    obtain ⟨V1, rfl⟩ : ∃ V, V = wc := ⟨_, rfl⟩
    have HPV1 := Lib.hid hP
    clear hP HPW
    rw [← HA.out]
    rw [← HM1.out] at HPV1
    go_upto_region 3 with fail
    go_cut [] (fun wx => PW w A cap (gitemF m1 (gitem0 1 a)) wx)
    case first =>
      obtain ⟨AP, cP, AF, cF, AI, cI, AS, cS, hB, hR, hC, hW⟩ := HPV1.out
      have y0 : V1.cell? ⟨w.heap.size, 0, none⟩ = some (.slice A m1.p.length cap) := hB.cell 0
      have y1 : V1.cell? ⟨w.heap.size, 1, none⟩ = some (.int .i64 m1.at_) := hB.cell 1
      have y2 : V1.cell? ⟨w.heap.size, 2, none⟩ = some (.int .i64 m1.n) := hB.cell 2
      have y3 : V1.cell? ⟨w.heap.size, 3, none⟩ = some (.slice AP m1.parts.length cP) := hB.cell 3
      have y4 : V1.cell? ⟨w.heap.size, 4, none⟩ = some (.slice AF m1.flows.length cF) := hB.cell 4
      have y5 : V1.cell? ⟨w.heap.size, 5, none⟩ = some (.slice AI m1.items.length cI) := hB.cell 5
      have y6 : V1.cell? ⟨w.heap.size, 6, none⟩ = some (.slice AS m1.seqs.length cS) := hB.cell 6
      have y7 : V1.cell? ⟨w.heap.size, 7, none⟩ = some (.string m1.pre) := hB.cell 7
      have HMK0 := Lib.hid (show MkR V1 A cap m1 _ from ⟨AP, cP, AF, cF, AI, cI, AS, cS, rfl, hC⟩)
      have HBB := Lib.hid hB
      have HRR := Lib.hid hR
      have HBL0 := Lib.hid hW
      have hgl := hB.lt
      have hgr := hR.lt
      have hszp := hW.size
      clear hB hR hC hW
      have HB0 := Lib.hid (Below.refl V1.heap.size V1)
      go_wp2_with fail
      refine (item_any HMK0.out (item0R _ 1 a) (HSm1.out.mono (by have := HKK.out; omega))).mono ?_
      rintro e w1 ⟨c1, rfl, hM1, hb1⟩
      have HB1 := Lib.hid (HB0.out.trans (hb1.mono HB0.out.size))
      have HBL1 := Lib.hid (HBL0.out.trans (hb1.mono HBL0.out.size))
      clear hb1
      obtain ⟨AP1, cP1, AF1, cF1, AI1, cI1, AS1, cS1, rfl, hC1⟩ := hM1
      have HP1 := Lib.hid (HPV1.out.put (m' := gitemF m1 (gitem0 1 a)) HB1.out hC1)
      have hB2 := HBB.out.below HB1.out HBB.out.lt
      have z0 : w1.cell? ⟨w.heap.size, 0, none⟩ = some (.slice A m1.p.length cap) := hB2.cell 0
      have z1 : w1.cell? ⟨w.heap.size, 1, none⟩ = some (.int .i64 m1.at_) := hB2.cell 1
      have z2 : w1.cell? ⟨w.heap.size, 2, none⟩ = some (.int .i64 m1.n) := hB2.cell 2
      have z3 : w1.cell? ⟨w.heap.size, 3, none⟩ = some (.slice AP m1.parts.length cP) := hB2.cell 3
      have z4 : w1.cell? ⟨w.heap.size, 4, none⟩ = some (.slice AF m1.flows.length cF) := hB2.cell 4
      have z5 : w1.cell? ⟨w.heap.size, 5, none⟩ = some (.slice AI m1.items.length cI) := hB2.cell 5
      have z6 : w1.cell? ⟨w.heap.size, 6, none⟩ = some (.slice AS m1.seqs.length cS) := hB2.cell 6
      have z7 : w1.cell? ⟨w.heap.size, 7, none⟩ = some (.string m1.pre) := hB2.cell 7
      have q0 := hB2.frozen 0
      have q1 := hB2.frozen 1
      have q2 := hB2.frozen 2
      have q3 := hB2.frozen 3
      have q4 := hB2.frozen 4
      have q5 := hB2.frozen 5
      have q6 := hB2.frozen 6
      have q7 := hB2.frozen 7
      have hgl1 := hB2.lt
      clear y0 y1 y2 y3 y4 y5 y6 y7 hB2 hC1
      go_wp2_with fail
      go_meet
      case rel => exact HP1.out
    case rest =>
      have hP := hcut
      clear hcut
      obtain ⟨V2, rfl⟩ : ∃ V, V = wc := ⟨_, rfl⟩
      have HPV2 := Lib.hid hP
      clear hP HPV1
      rw [← HM2.out] at HPV2
      go_upto_region 4 with fail
      go_cut [6] (fun v0x wx => v0x = .string (gpartF d m2 a).1 ∧ PW w A cap ((gpartF d m2 a).2) wx)
      case first =>
        obtain ⟨AP, cP, AF, cF, AI, cI, AS, cS, hB, hR, hC, hW⟩ := HPV2.out
        have y0 : V2.cell? ⟨w.heap.size, 0, none⟩ = some (.slice A m2.p.length cap) := hB.cell 0
        have y1 : V2.cell? ⟨w.heap.size, 1, none⟩ = some (.int .i64 m2.at_) := hB.cell 1
        have y2 : V2.cell? ⟨w.heap.size, 2, none⟩ = some (.int .i64 m2.n) := hB.cell 2
        have y3 : V2.cell? ⟨w.heap.size, 3, none⟩ = some (.slice AP m2.parts.length cP) := hB.cell 3
        have y4 : V2.cell? ⟨w.heap.size, 4, none⟩ = some (.slice AF m2.flows.length cF) := hB.cell 4
        have y5 : V2.cell? ⟨w.heap.size, 5, none⟩ = some (.slice AI m2.items.length cI) := hB.cell 5
        have y6 : V2.cell? ⟨w.heap.size, 6, none⟩ = some (.slice AS m2.seqs.length cS) := hB.cell 6
        have y7 : V2.cell? ⟨w.heap.size, 7, none⟩ = some (.string m2.pre) := hB.cell 7
        have HMK0 := Lib.hid (show MkR V2 A cap m2 _ from ⟨AP, cP, AF, cF, AI, cI, AS, cS, rfl, hC⟩)
        have HBB := Lib.hid hB
        have HRR := Lib.hid hR
        have HBL0 := Lib.hid hW
        have hgl := hB.lt
        have hgr := hR.lt
        have hszp := hW.size
        clear hB hR hC hW
        have HB0 := Lib.hid (Below.refl V2.heap.size V2)
        go_wp2_with fail
        refine ((part_any d).call (HIAm2.out.below HBL0.out) HMK0.out HSm2.out (by have := HKK.out; omega) HQ2m2.out HQ4m2.out a).mono ?_
        rintro e w1 ⟨c1, rfl, hM1, hb1⟩
        have HB1 := Lib.hid (HB0.out.trans (hb1.mono HB0.out.size))
        have HBL1 := Lib.hid (HBL0.out.trans (hb1.mono HBL0.out.size))
        clear hb1
        obtain ⟨AP1, cP1, AF1, cF1, AI1, cI1, AS1, cS1, rfl, hC1⟩ := hM1
        have HP1 := Lib.hid (HPV2.out.put (m' := (gpartF d m2 a).2) HB1.out hC1)
        have hB2 := HBB.out.below HB1.out HBB.out.lt
        have z0 : w1.cell? ⟨w.heap.size, 0, none⟩ = some (.slice A m2.p.length cap) := hB2.cell 0
        have z1 : w1.cell? ⟨w.heap.size, 1, none⟩ = some (.int .i64 m2.at_) := hB2.cell 1
        have z2 : w1.cell? ⟨w.heap.size, 2, none⟩ = some (.int .i64 m2.n) := hB2.cell 2
        have z3 : w1.cell? ⟨w.heap.size, 3, none⟩ = some (.slice AP m2.parts.length cP) := hB2.cell 3
        have z4 : w1.cell? ⟨w.heap.size, 4, none⟩ = some (.slice AF m2.flows.length cF) := hB2.cell 4
        have z5 : w1.cell? ⟨w.heap.size, 5, none⟩ = some (.slice AI m2.items.length cI) := hB2.cell 5
        have z6 : w1.cell? ⟨w.heap.size, 6, none⟩ = some (.slice AS m2.seqs.length cS) := hB2.cell 6
        have z7 : w1.cell? ⟨w.heap.size, 7, none⟩ = some (.string m2.pre) := hB2.cell 7
        have q0 := hB2.frozen 0
        have q1 := hB2.frozen 1
        have q2 := hB2.frozen 2
        have q3 := hB2.frozen 3
        have q4 := hB2.frozen 4
        have q5 := hB2.frozen 5
        have q6 := hB2.frozen 6
        have q7 := hB2.frozen 7
        have hgl1 := hB2.lt
        clear y0 y1 y2 y3 y4 y5 y6 y7 hB2 hC1
        go_wp2_with fail
        go_meet
        case rel => exact ⟨rfl, HP1.out⟩
      case rest =>
        obtain ⟨rfl, hP⟩ := hcut
        obtain ⟨V3, rfl⟩ : ∃ V, V = wc := ⟨_, rfl⟩
        have HPV3 := Lib.hid hP
        clear hP HPV2
        rw [← HB0x.out]
        rw [← HM3.out] at HPV3
        go_upto_region 5 with fail
        go_cut [7] (fun v0x wx => v0x = .string (gnameF m3 chE) ∧ PW w A cap (gnamedF m3) wx)
        case first =>
          obtain ⟨AP, cP, AF, cF, AI, cI, AS, cS, hB, hR, hC, hW⟩ := HPV3.out
          have y0 : V3.cell? ⟨w.heap.size, 0, none⟩ = some (.slice A m3.p.length cap) := hB.cell 0
          have y1 : V3.cell? ⟨w.heap.size, 1, none⟩ = some (.int .i64 m3.at_) := hB.cell 1
          have y2 : V3.cell? ⟨w.heap.size, 2, none⟩ = some (.int .i64 m3.n) := hB.cell 2
          have y3 : V3.cell? ⟨w.heap.size, 3, none⟩ = some (.slice AP m3.parts.length cP) := hB.cell 3
          have y4 : V3.cell? ⟨w.heap.size, 4, none⟩ = some (.slice AF m3.flows.length cF) := hB.cell 4
          have y5 : V3.cell? ⟨w.heap.size, 5, none⟩ = some (.slice AI m3.items.length cI) := hB.cell 5
          have y6 : V3.cell? ⟨w.heap.size, 6, none⟩ = some (.slice AS m3.seqs.length cS) := hB.cell 6
          have y7 : V3.cell? ⟨w.heap.size, 7, none⟩ = some (.string m3.pre) := hB.cell 7
          have HMK0 := Lib.hid (show MkR V3 A cap m3 _ from ⟨AP, cP, AF, cF, AI, cI, AS, cS, rfl, hC⟩)
          have HBB := Lib.hid hB
          have HRR := Lib.hid hR
          have HBL0 := Lib.hid hW
          have hgl := hB.lt
          have hgr := hR.lt
          have hszp := hW.size
          clear hB hR hC hW
          have HB0 := Lib.hid (Below.refl V3.heap.size V3)
          go_wp2_with fail
          refine (name_any HMK0.out (HSm3.out.mono (by have := HKK.out; omega)) chE (by decide)).mono ?_
          rintro e w1 ⟨c1, rfl, hM1, hb1⟩
          have HB1 := Lib.hid (HB0.out.trans (hb1.mono HB0.out.size))
          have HBL1 := Lib.hid (HBL0.out.trans (hb1.mono HBL0.out.size))
          clear hb1
          obtain ⟨AP1, cP1, AF1, cF1, AI1, cI1, AS1, cS1, rfl, hC1⟩ := hM1
          have HP1 := Lib.hid (HPV3.out.put (m' := gnamedF m3) HB1.out hC1)
          have hB2 := HBB.out.below HB1.out HBB.out.lt
          have z0 : w1.cell? ⟨w.heap.size, 0, none⟩ = some (.slice A m3.p.length cap) := hB2.cell 0
          have z1 : w1.cell? ⟨w.heap.size, 1, none⟩ = some (.int .i64 m3.at_) := hB2.cell 1
          have z2 : w1.cell? ⟨w.heap.size, 2, none⟩ = some (.int .i64 m3.n) := hB2.cell 2
          have z3 : w1.cell? ⟨w.heap.size, 3, none⟩ = some (.slice AP m3.parts.length cP) := hB2.cell 3
          have z4 : w1.cell? ⟨w.heap.size, 4, none⟩ = some (.slice AF m3.flows.length cF) := hB2.cell 4
          have z5 : w1.cell? ⟨w.heap.size, 5, none⟩ = some (.slice AI m3.items.length cI) := hB2.cell 5
          have z6 : w1.cell? ⟨w.heap.size, 6, none⟩ = some (.slice AS m3.seqs.length cS) := hB2.cell 6
          have z7 : w1.cell? ⟨w.heap.size, 7, none⟩ = some (.string m3.pre) := hB2.cell 7
          have q0 := hB2.frozen 0
          have q1 := hB2.frozen 1
          have q2 := hB2.frozen 2
          have q3 := hB2.frozen 3
          have q4 := hB2.frozen 4
          have q5 := hB2.frozen 5
          have q6 := hB2.frozen 6
          have q7 := hB2.frozen 7
          have hgl1 := hB2.lt
          clear y0 y1 y2 y3 y4 y5 y6 y7 hB2 hC1
          go_wp2_with fail
          go_meet
          case rel => exact ⟨rfl, HP1.out⟩
        case rest =>
          obtain ⟨rfl, hP⟩ := hcut
          obtain ⟨V4, rfl⟩ : ∃ V, V = wc := ⟨_, rfl⟩
          have HPV4 := Lib.hid hP
          clear hP HPV3
          rw [← HEx.out]
          rw [← HM4.out] at HPV4
          go_upto_region 6 with fail
          obtain ⟨AP, cP, AF, cF, AI, cI, AS, cS, hB, hR, hC, hW⟩ := HPV4.out
          have y0 : V4.cell? ⟨w.heap.size, 0, none⟩ = some (.slice A m4.p.length cap) := hB.cell 0
          have y1 : V4.cell? ⟨w.heap.size, 1, none⟩ = some (.int .i64 m4.at_) := hB.cell 1
          have y2 : V4.cell? ⟨w.heap.size, 2, none⟩ = some (.int .i64 m4.n) := hB.cell 2
          have y3 : V4.cell? ⟨w.heap.size, 3, none⟩ = some (.slice AP m4.parts.length cP) := hB.cell 3
          have y4 : V4.cell? ⟨w.heap.size, 4, none⟩ = some (.slice AF m4.flows.length cF) := hB.cell 4
          have y5 : V4.cell? ⟨w.heap.size, 5, none⟩ = some (.slice AI m4.items.length cI) := hB.cell 5
          have y6 : V4.cell? ⟨w.heap.size, 6, none⟩ = some (.slice AS m4.seqs.length cS) := hB.cell 6
          have y7 : V4.cell? ⟨w.heap.size, 7, none⟩ = some (.string m4.pre) := hB.cell 7
          have HMK0 := Lib.hid (show MkR V4 A cap m4 _ from ⟨AP, cP, AF, cF, AI, cI, AS, cS, rfl, hC⟩)
          have HBB := Lib.hid hB
          have HRR := Lib.hid hR
          have HBL0 := Lib.hid hW
          have hgl := hB.lt
          have hgr := hR.lt
          have hszp := hW.size
          clear hB hR hC hW
          have HB0 := Lib.hid (Below.refl V4.heap.size V4)
          go_wp2_with fail
          refine (item_any HMK0.out (item0R _ 2 e) (HSm4.out.mono (by have := HKK.out; omega))).mono ?_
          rintro e w1 ⟨c1, rfl, hM1, hb1⟩
          have HB1 := Lib.hid (HB0.out.trans (hb1.mono HB0.out.size))
          have HBL1 := Lib.hid (HBL0.out.trans (hb1.mono HBL0.out.size))
          have HMK1 := Lib.hid hM1
          clear hM1 hb1
          go_wp2_with fail
          refine (seq_any HMK1.out (((grow_item m4 (gitem0 2 e)).small HSm4.out).mono (by have := HKK.out; omega)) b e).mono ?_
          rintro e w2 ⟨c2, rfl, hM2, hb2⟩
          have HB2 := Lib.hid (HB1.out.trans (hb2.mono HB1.out.size))
          have HBL2 := Lib.hid (HBL1.out.trans (hb2.mono HBL1.out.size))
          clear hb2
          rw [← HM9.out] at hM2
          obtain ⟨AP1, cP1, AF1, cF1, AI1, cI1, AS1, cS1, rfl, hC1⟩ := hM2
          have hR1 := HRR.out.below HB2.out HRR.out.lt
          have z0 : w2.cell? ⟨w.heap.size + 1, 0, none⟩ = some (.slice none 0 0) := hR1.cell 0
          have z1 : w2.cell? ⟨w.heap.size + 1, 1, none⟩ = some (.int .i64 0) := hR1.cell 1
          have z2 : w2.cell? ⟨w.heap.size + 1, 2, none⟩ = some (.int .i64 0) := hR1.cell 2
          have z3 : w2.cell? ⟨w.heap.size + 1, 3, none⟩ = some (.slice none 0 0) := hR1.cell 3
          have z4 : w2.cell? ⟨w.heap.size + 1, 4, none⟩ = some (.slice none 0 0) := hR1.cell 4
          have z5 : w2.cell? ⟨w.heap.size + 1, 5, none⟩ = some (.slice none 0 0) := hR1.cell 5
          have z6 : w2.cell? ⟨w.heap.size + 1, 6, none⟩ = some (.slice none 0 0) := hR1.cell 6
          have z7 : w2.cell? ⟨w.heap.size + 1, 7, none⟩ = some (.string ⟨#[]⟩) := hR1.cell 7
          have q0 := hR1.frozen 0
          have q1 := hR1.frozen 1
          have q2 := hR1.frozen 2
          have q3 := hR1.frozen 3
          have q4 := hR1.frozen 4
          have q5 := hR1.frozen 5
          have q6 := hR1.frozen 6
          have q7 := hR1.frozen 7
          have hl1 := hR1.lt
          have HR1 := Lib.hid hR1
          have HE := Lib.hid (MkR.fin1 (A := A) (cap := cap) (M := m9) HRR.out HBL0.out HB2.out hC1)
          clear y0 y1 y2 y3 y4 y5 y6 y7 hC1 hR1
          go_wp2_with fail
          have hblk := putAll_blk [.slice A m9.p.length cap, .int .i64 m9.at_, .int .i64 m9.n, .slice AP1 m9.parts.length cP1, .slice AF1 m9.flows.length cF1, .slice AI1 m9.items.length cI1, .slice AS1 m9.seqs.length cS1, .string m9.pre] 0 w2 _ HR1.out rfl
          have hend : MkEnd1 w A cap (glevelF m d) (.returned (.agg #[.slice A m9.p.length cap, .int .i64 m9.at_, .int .i64 m9.n, .slice AP1 m9.parts.length cP1, .slice AF1 m9.flows.length cF1, .slice AI1 m9.items.length cI1, .slice AS1 m9.seqs.length cS1, .string m9.pre])) (putAll w2 (w.heap.size + 1) 0 [.slice A m9.p.length cap, .int .i64 m9.at_, .int .i64 m9.n, .slice AP1 m9.parts.length cP1, .slice AF1 m9.flows.length cF1, .slice AI1 m9.items.length cI1, .slice AS1 m9.seqs.length cS1, .string m9.pre]) := by
            rw [HEQ.out]
            exact HE.out
          exact bodyPost_ret (ret_level hblk rfl) rfl hend
end Go.Proofs.Yteoioboiniealaa
