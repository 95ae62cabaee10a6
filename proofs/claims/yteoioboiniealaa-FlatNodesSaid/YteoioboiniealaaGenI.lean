/- The contract of the generator's part. -/
import Derived.Test.YteoioboiniealaaGenG
import Derived.Test.YteoioboiniealaaGenH
namespace Go.Proofs.Yteoioboiniealaa
open Go.RowKit
attribute [local go_sem ↓] Go.wp_at_zero Go.wp_at_succ

/-- The contract of part, so deep. -/
structure PartC (d : Nat) : Prop where
  call : ∀ {w : World} {A : Option Addr} {cap : Nat} {m : MkD} {c : Array Value} {K : Nat}, IntsAt w A m.p → MkR w A cap m c → SmallM K m → K + gG d ≤ 7000 → 2 ≤ m.parts.length → m.parts.length ≤ 4 → ∀ src : ByteArray,
  Calls Try.prog 61 #[.agg c, .string src, .int .i64 d] w (MkEnd w A cap (.string (gpartF d m src).1) (gpartF d m src).2)
set_option maxRecDepth 100000 in
set_option maxHeartbeats 16000000 in
theorem part_step (d : Nat) (IH : ∀ e, d = e + 1 → PartC e) : PartC d := by
  refine ⟨?_⟩
  intro w A cap m c K hp hM hs hK h2 h4 src
  obtain ⟨AP, cP, AF, cF, AI, cI, AS, cS, rfl, hC⟩ := hM
  have hgp := gG_pos d
  have HIA := Lib.hid hp
  have HIH := Lib.hid IH
  have HS := Lib.hid (hs.mono (show K ≤ 6995 by omega))
  have HSK := Lib.hid hs
  obtain ⟨x, hx⟩ : ∃ x, x = pickF m.p m.at_ := ⟨_, rfl⟩
  obtain ⟨k, hk⟩ : ∃ k, k = x % 8 := ⟨_, rfl⟩
  obtain ⟨x8, hx8⟩ : ∃ k, k = x / 8 := ⟨_, rfl⟩
  obtain ⟨m1, hm1⟩ : ∃ M, M = gnextF m := ⟨_, rfl⟩
  have hxl : x ≤ 16777215 := by rw [hx]; exact pickF_le _ _
  have hk8 : k < 8 := by omega
  have hx8l : x8 ≤ 16777216 := by omega
  have hm1p : m1.p = m.p := by rw [hm1]; rfl
  have hm1q : m1.parts = m.parts := by rw [hm1]; rfl
  have hm1i : m1.items = m.items := by rw [hm1]; rfl
  have hs1 : SmallM (K + 1) m1 := by rw [hm1]; exact (grow_next m).small hs
  have g1 : (x : Int).tmod 8 = (k : Int) := by rw [Int.tmod_eq_emod_of_nonneg (by omega), hk]; omega
  have g2 : (x : Int) / 8 = (x8 : Int) := by rw [hx8]; omega
  obtain ⟨lf, hlf⟩ : ∃ b, b = decide (d = 0 ∨ k < 3 ∨ 9 < m1.items.length) := ⟨_, rfl⟩
  have HX := Lib.hid hx
  have HK := Lib.hid hk
  have HX8 := Lib.hid hx8
  have HM1 := Lib.hid hm1
  have HM1P := Lib.hid hm1p
  have HM1Q := Lib.hid hm1q
  have HM1I := Lib.hid hm1i
  have HS1 := Lib.hid hs1
  have HG1 := Lib.hid g1
  have HG2 := Lib.hid g2
  have HLF := Lib.hid hlf
  have HKK := Lib.hid hK
  have HH2 := Lib.hid h2
  have HH4 := Lib.hid h4
  obtain ⟨W, hW⟩ : ∃ W, W = (w.alloc (.cells #[.slice A m.p.length cap, .int .i64 m.at_, .int .i64 m.n, .slice AP m.parts.length cP, .slice AF m.flows.length cF, .slice AI m.items.length cI, .slice AS m.seqs.length cS, .string m.pre] 89)).alloc (.cells #[.slice none 0 0, .int .i64 0, .int .i64 0, .slice none 0 0, .slice none 0 0, .slice none 0 0, .slice none 0 0, .string ⟨#[]⟩] 89) := ⟨_, rfl⟩
  have hP : PW w A cap m W := by
    have h1 : Blk W w.heap.size 89 #[.slice A m.p.length cap, .int .i64 m.at_, .int .i64 m.n, .slice AP m.parts.length cP, .slice AF m.flows.length cF, .slice AI m.items.length cI, .slice AS m.seqs.length cS, .string m.pre] := by rw [hW]; exact (Blk.new w _ _).alloc _
    have h2 : Blk W (w.heap.size + 1) 89 #[.slice none 0 0, .int .i64 0, .int .i64 0, .slice none 0 0, .slice none 0 0, .slice none 0 0, .slice none 0 0, .string ⟨#[]⟩] := by
      rw [hW]
      have := Blk.new (w.alloc (.cells #[.slice A m.p.length cap, .int .i64 m.at_, .int .i64 m.n, .slice AP m.parts.length cP, .slice AF m.flows.length cF, .slice AI m.items.length cI, .slice AS m.seqs.length cS, .string m.pre] 89)) 89 #[.slice none 0 0, .int .i64 0, .int .i64 0, .slice none 0 0, .slice none 0 0, .slice none 0 0, .slice none 0 0, .string ⟨#[]⟩]
      simpa using this
    have hb : Below w.heap.size w W := by rw [hW]; exact ((Below.refl _ _).alloc (Nat.le_refl _) _).alloc (by simp) _
    exact ⟨AP, cP, AF, cF, AI, cI, AS, cS, h1, h2, hC.below hb, hb⟩
  have HPW := Lib.hid hP
  have HW := Lib.hid hW.symm
  clear hC hs hs1 hP hW hp IH hx hk hx8 hm1 hm1p hm1q hm1i g1 g2 hlf hK h2 h4
  go_enter Try.func61, Try.ntmps61
  go_upto_region 2 with fail
  rw [HW.out]
  go_upto_region 2 with fail
  go_cut [8] (fun v0x wx => v0x = .int .i64 (pickF m.p m.at_ : Nat) ∧ PW w A cap (gnextF m) wx)
  case first =>
    obtain ⟨AP, cP, AF, cF, AI, cI, AS, cS, hB, hR, hC, hW⟩ := HPW.out
    have y0 : W.cell? ⟨w.heap.size, 0, none⟩ = some (.slice A m.p.length cap) := hB.cell 0
    have y1 : W.cell? ⟨w.heap.size, 1, none⟩ = some (.int .i64 m.at_) := hB.cell 1
    have y2 : W.cell? ⟨w.heap.size, 2, none⟩ = some (.int .i64 m.n) := hB.cell 2
    have y3 : W.cell? ⟨w.heap.size, 3, none⟩ = some (.slice AP m.parts.length cP) := hB.cell 3
    have y4 : W.cell? ⟨w.heap.size, 4, none⟩ = some (.slice AF m.flows.length cF) := hB.cell 4
    have y5 : W.cell? ⟨w.heap.size, 5, none⟩ = some (.slice AI m.items.length cI) := hB.cell 5
    have y6 : W.cell? ⟨w.heap.size, 6, none⟩ = some (.slice AS m.seqs.length cS) := hB.cell 6
    have y7 : W.cell? ⟨w.heap.size, 7, none⟩ = some (.string m.pre) := hB.cell 7
    have HMK0 := Lib.hid (show MkR W A cap m _ from ⟨AP, cP, AF, cF, AI, cI, AS, cS, rfl, hC⟩)
    have HBB := Lib.hid hB
    have HRR := Lib.hid hR
    have HBL0 := Lib.hid hW
    have hgl := hB.lt
    have hgr := hR.lt
    have hszp := hW.size
    clear hB hR hC hW
    have HB0 := Lib.hid (Below.refl W.heap.size W)
    go_wp2_with fail
    refine (next_any (HIA.out.below HBL0.out) HMK0.out (HS.out.mono (by decide))).mono ?_
    rintro e w1 ⟨c1, rfl, hM1, hb1⟩
    have HB1 := Lib.hid (HB0.out.trans (hb1.mono HB0.out.size))
    have HBL1 := Lib.hid (HBL0.out.trans (hb1.mono HBL0.out.size))
    clear hb1
    obtain ⟨AP1, cP1, AF1, cF1, AI1, cI1, AS1, cS1, rfl, hC1⟩ := hM1
    have HP1 := Lib.hid (HPW.out.put (m' := gnextF m) HB1.out hC1)
    have hB2 := HBB.out.below HB1.out HBB.out.lt
    have z0 : w1.cell? ⟨w.heap.size, 0, none⟩ = some (.slice A m.p.length cap) := hB2.cell 0
    have z1 : w1.cell? ⟨w.heap.size, 1, none⟩ = some (.int .i64 m.at_) := hB2.cell 1
    have z2 : w1.cell? ⟨w.heap.size, 2, none⟩ = some (.int .i64 m.n) := hB2.cell 2
    have z3 : w1.cell? ⟨w.heap.size, 3, none⟩ = some (.slice AP m.parts.length cP) := hB2.cell 3
    have z4 : w1.cell? ⟨w.heap.size, 4, none⟩ = some (.slice AF m.flows.length cF) := hB2.cell 4
    have z5 : w1.cell? ⟨w.heap.size, 5, none⟩ = some (.slice AI m.items.length cI) := hB2.cell 5
    have z6 : w1.cell? ⟨w.heap.size, 6, none⟩ = some (.slice AS m.seqs.length cS) := hB2.cell 6
    have z7 : w1.cell? ⟨w.heap.size, 7, none⟩ = some (.string m.pre) := hB2.cell 7
    have q0 := hB2.frozen 0
    have q1 := hB2.frozen 1
    have q2 := hB2.frozen 2
    have q3 := hB2.frozen 3
    have q4 := hB2.frozen 4
    have q5 := hB2.frozen 5
    have q6 := hB2.frozen 6
    have q7 := hB2.frozen 7
    have hgl1 := hB2.lt
    clear y0 y1 y2 y3 y4 y5 y6 y7 hB2 hC1
    go_wp2_with fail
    go_meet
    case rel => exact ⟨rfl, HP1.out⟩
  case rest =>
    obtain ⟨rfl, hP⟩ := hcut
    obtain ⟨V1, rfl⟩ : ∃ V, V = wc := ⟨_, rfl⟩
    have HPV1 := Lib.hid hP
    clear hP HPW
    rw [← HX.out]
    rw [← HM1.out] at HPV1
    have g1 := HG1.out
    go_upto_region 4 with fail
    clear g1
    go_cut [37] (fun v wx => v = .bool lf ∧ wx = V1)
    case first =>
      obtain ⟨AP, cP, AF, cF, AI, cI, AS, cS, hB, hR, hC, hW⟩ := HPV1.out
      have y5 : V1.cell? ⟨w.heap.size, 5, none⟩ = some (.slice AI m1.items.length cI) := hB.cell 5
      clear hB hR hC hW
      by_cases c1 : d = 0
      · have e1 : ((d : Int) == 0) = true := by rw [c1]; rfl
        have e9 : lf = true := by rw [HLF.out]; simp [c1]
        have HE := Lib.hid e9
        clear c1 e9
        go_wp2_with fail
        go_meet
        case rel => exact ⟨by rw [HE.out], rfl⟩
      · have e1 : ((d : Int) == 0) = false := by simp; omega
        by_cases c2 : k < 3
        · have e2 : (k : Int) < 3 := by omega
          have e9 : lf = true := by rw [HLF.out]; simp [c2]
          have HE := Lib.hid e9
          clear c1 c2 e9
          go_wp2_with fail
          go_meet
          case rel => exact ⟨by rw [HE.out], rfl⟩
        · have e2 : ¬ (k : Int) < 3 := by omega
          by_cases c3 : 9 < m1.items.length
          · have e3 : (9 : Int) < (m1.items.length : Int) := by omega
            have e9 : lf = true := by rw [HLF.out]; simp [c3]
            have HE := Lib.hid e9
            clear c1 c2 c3 e9
            go_wp2_with fail
            go_meet
            case rel => exact ⟨by rw [HE.out], rfl⟩
          · have e3 : ¬ (9 : Int) < (m1.items.length : Int) := by omega
            have e9 : lf = false := by rw [HLF.out]; simp [c1, c2, c3]
            have HE := Lib.hid e9
            clear c1 c2 c3 e9
            go_wp2_with fail
            go_meet
            case rel => exact ⟨by rw [HE.out], rfl⟩
    case rest =>
      obtain ⟨rfl, hwc⟩ := hcut
      rw [hwc]
      clear hwc
      cases lf with
      | true =>
        have hlt : d = 0 ∨ k < 3 ∨ 9 < m1.items.length := of_decide_eq_true HLF.out.symm
        obtain ⟨t, ht⟩ : ∃ t, t = gnameF m1 chT := ⟨_, rfl⟩
        obtain ⟨m2, hm2⟩ : ∃ M, M = gtaskF m1 x8 := ⟨_, rfl⟩
        obtain ⟨m9, hm9⟩ : ∃ M, M = gseqF m2 src t := ⟨_, rfl⟩
        have heq : gpartF d m src = (t, m9) := by
          rw [HK.out, HM1I.out, HX.out] at hlt
          rw [gpartF_leaf hlt, hm9, hm2, ht, HX8.out, HM1.out, HX.out]
          rfl
        have hs2 : SmallM 9000 m2 := by rw [hm2]; exact ((grow_task m1 x8).small HS1.out).mono (by have := HKK.out; omega)
        have HT := Lib.hid ht
        have HM2 := Lib.hid hm2
        have HM9 := Lib.hid hm9
        have HEQ := Lib.hid heq
        have HS2 := Lib.hid hs2
        clear hlt ht hm2 hm9 heq hs2
        go_upto_region 5 with fail
        go_cut [10, 11] (fun vx ux wx => ∃ gN, vx = .string (gnameF m1 chT) ∧ ux = .pointer (some ⟨gN, 0, none⟩) ∧ NW w A cap (gtaskF m1 x8) gN wx)
        case first =>
          obtain ⟨AP, cP, AF, cF, AI, cI, AS, cS, hB, hR, hC, hW⟩ := HPV1.out
          have y0 : V1.cell? ⟨w.heap.size, 0, none⟩ = some (.slice A m1.p.length cap) := hB.cell 0
          have y1 : V1.cell? ⟨w.heap.size, 1, none⟩ = some (.int .i64 m1.at_) := hB.cell 1
          have y2 : V1.cell? ⟨w.heap.size, 2, none⟩ = some (.int .i64 m1.n) := hB.cell 2
          have y3 : V1.cell? ⟨w.heap.size, 3, none⟩ = some (.slice AP m1.parts.length cP) := hB.cell 3
          have y4 : V1.cell? ⟨w.heap.size, 4, none⟩ = some (.slice AF m1.flows.length cF) := hB.cell 4
          have y5 : V1.cell? ⟨w.heap.size, 5, none⟩ = some (.slice AI m1.items.length cI) := hB.cell 5
          have y6 : V1.cell? ⟨w.heap.size, 6, none⟩ = some (.slice AS m1.seqs.length cS) := hB.cell 6
          have y7 : V1.cell? ⟨w.heap.size, 7, none⟩ = some (.string m1.pre) := hB.cell 7
          have HMK0 := Lib.hid (show MkR V1 A cap m1 _ from ⟨AP, cP, AF, cF, AI, cI, AS, cS, rfl, hC⟩)
          have HBB := Lib.hid hB
          have HRR := Lib.hid hR
          have HBL0 := Lib.hid hW
          have hgl := hB.lt
          have hgr := hR.lt
          have hszp := hW.size
          clear hB hR hC hW
          have g2 := HG2.out
          have HB0 := Lib.hid (Below.refl V1.heap.size V1)
          go_wp2_with fail
          refine (task_any HMK0.out (HS1.out.mono (by have := HKK.out; omega)) (by rw [HM1Q.out]; exact HH2.out) (by rw [HM1Q.out]; exact HH4.out) x8 hx8l).mono ?_
          rintro e w1 ⟨c1, rfl, hM1, hb1⟩
          have HB1 := Lib.hid (HB0.out.trans (hb1.mono HB0.out.size))
          have HBL1 := Lib.hid (HBL0.out.trans (hb1.mono HBL0.out.size))
          clear hb1
          obtain ⟨AP1, cP1, AF1, cF1, AI1, cI1, AS1, cS1, rfl, hC1⟩ := hM1
          clear g2
          have HN := Lib.hid (NW.laid HPV1.out (m' := gtaskF m1 x8) HB1.out hC1)
          clear y0 y1 y2 y3 y4 y5 y6 y7 hC1
          go_wp2_with fail
          go_meet
          case rel => exact ⟨_, rfl, rfl, HN.out⟩
        case rest =>
          obtain ⟨gN, rfl, rfl, hN⟩ := hcut
          obtain ⟨V3, rfl⟩ : ∃ V, V = wc := ⟨_, rfl⟩
          have HN := Lib.hid hN
          clear hN HPV1
          rw [← HT.out]
          rw [← HM2.out] at HN
          obtain ⟨AP, cP, AF, cF, AI, cI, AS, cS, hB, hR, hC, hW⟩ := HN.out
          have y0 : V3.cell? ⟨gN, 0, none⟩ = some (.slice A m2.p.length cap) := hB.cell 0
          have y1 : V3.cell? ⟨gN, 1, none⟩ = some (.int .i64 m2.at_) := hB.cell 1
          have y2 : V3.cell? ⟨gN, 2, none⟩ = some (.int .i64 m2.n) := hB.cell 2
          have y3 : V3.cell? ⟨gN, 3, none⟩ = some (.slice AP m2.parts.length cP) := hB.cell 3
          have y4 : V3.cell? ⟨gN, 4, none⟩ = some (.slice AF m2.flows.length cF) := hB.cell 4
          have y5 : V3.cell? ⟨gN, 5, none⟩ = some (.slice AI m2.items.length cI) := hB.cell 5
          have y6 : V3.cell? ⟨gN, 6, none⟩ = some (.slice AS m2.seqs.length cS) := hB.cell 6
          have y7 : V3.cell? ⟨gN, 7, none⟩ = some (.string m2.pre) := hB.cell 7
          have HMK0 := Lib.hid (show MkR V3 A cap m2 _ from ⟨AP, cP, AF, cF, AI, cI, AS, cS, rfl, hC⟩)
          have HBB := Lib.hid hB
          have HRR := Lib.hid hR
          have HBL0 := Lib.hid hW
          have hgl := hB.lt
          have hgr := hR.lt
          have hszp := hW.size
          clear hB hR hC hW
          have HB0 := Lib.hid (Below.refl V3.heap.size V3)
          go_wp2_with fail
          refine (seq_any HMK0.out HS2.out src t).mono ?_
          rintro e w1 ⟨c1, rfl, hM1, hb1⟩
          have HB1 := Lib.hid (HB0.out.trans (hb1.mono HB0.out.size))
          have HBL1 := Lib.hid (HBL0.out.trans (hb1.mono HBL0.out.size))
          clear hb1
          rw [← HM9.out] at hM1
          obtain ⟨AP1, cP1, AF1, cF1, AI1, cI1, AS1, cS1, rfl, hC1⟩ := hM1
          have hR1 := HRR.out.below HB1.out HRR.out.lt
          have z0 : w1.cell? ⟨w.heap.size + 1, 0, none⟩ = some (.slice none 0 0) := hR1.cell 0
          have z1 : w1.cell? ⟨w.heap.size + 1, 1, none⟩ = some (.int .i64 0) := hR1.cell 1
          have z2 : w1.cell? ⟨w.heap.size + 1, 2, none⟩ = some (.int .i64 0) := hR1.cell 2
          have z3 : w1.cell? ⟨w.heap.size + 1, 3, none⟩ = some (.slice none 0 0) := hR1.cell 3
          have z4 : w1.cell? ⟨w.heap.size + 1, 4, none⟩ = some (.slice none 0 0) := hR1.cell 4
          have z5 : w1.cell? ⟨w.heap.size + 1, 5, none⟩ = some (.slice none 0 0) := hR1.cell 5
          have z6 : w1.cell? ⟨w.heap.size + 1, 6, none⟩ = some (.slice none 0 0) := hR1.cell 6
          have z7 : w1.cell? ⟨w.heap.size + 1, 7, none⟩ = some (.string ⟨#[]⟩) := hR1.cell 7
          have q0 := hR1.frozen 0
          have q1 := hR1.frozen 1
          have q2 := hR1.frozen 2
          have q3 := hR1.frozen 3
          have q4 := hR1.frozen 4
          have q5 := hR1.frozen 5
          have q6 := hR1.frozen 6
          have q7 := hR1.frozen 7
          have hl1 := hR1.lt
          have HR1 := Lib.hid hR1
          have HE := Lib.hid (MkR.fin (A := A) (cap := cap) (M := m9) HRR.out HBL0.out HB1.out hC1 (.string (t)))
          clear y0 y1 y2 y3 y4 y5 y6 y7 hC1 hR1
          go_wp2_with fail
          have hblk := putAll_blk [.slice A m9.p.length cap, .int .i64 m9.at_, .int .i64 m9.n, .slice AP1 m9.parts.length cP1, .slice AF1 m9.flows.length cF1, .slice AI1 m9.items.length cI1, .slice AS1 m9.seqs.length cS1, .string m9.pre] 0 w1 _ HR1.out rfl
          have hend : MkEnd w A cap (.string (gpartF d m src).1) (gpartF d m src).2 (.returned (.tuple #[.string (t), .agg #[.slice A m9.p.length cap, .int .i64 m9.at_, .int .i64 m9.n, .slice AP1 m9.parts.length cP1, .slice AF1 m9.flows.length cF1, .slice AI1 m9.items.length cI1, .slice AS1 m9.seqs.length cS1, .string m9.pre]])) (putAll w1 (w.heap.size + 1) 0 [.slice A m9.p.length cap, .int .i64 m9.at_, .int .i64 m9.n, .slice AP1 m9.parts.length cP1, .slice AF1 m9.flows.length cF1, .slice AI1 m9.items.length cI1, .slice AS1 m9.seqs.length cS1, .string m9.pre]) := by
            rw [HEQ.out]
            exact HE.out
          exact bodyPost_ret (ret_part hblk rfl rfl) rfl hend

      | false =>
        have hnl : ¬ (d = 0 ∨ k < 3 ∨ 9 < m1.items.length) := of_decide_eq_false HLF.out.symm
        obtain ⟨e, hde⟩ : ∃ e, d = e + 1 := ⟨d - 1, by omega⟩
        have hGe : gG d = 2 * gG e + 9 := by rw [hde]; rfl
        have hsub : (d : Int) - 1 = (e : Int) := by omega
        have hgpe := gG_pos e
        have he7 : e ≤ 7000 := by have := gG_ge d; have := HKK.out; omega
        have hd7 : d ≤ 7000 := by have := gG_ge d; have := HKK.out; omega
        have hd0 : 1 ≤ d := by omega
        have hnl2 : ¬ (pickF m.p m.at_ % 8 < 3 ∨ 9 < m.items.length) := by
          rw [← HX.out, ← HK.out, ← HM1I.out]
          omega
        have HIE := Lib.hid (HIH.out e hde)
        have HIA1 : Hid (IntsAt w A m1.p) := Lib.hid (by rw [HM1P.out]; exact HIA.out)
        have HDE := Lib.hid hde
        have HGE := Lib.hid hGe
        have HSUB := Lib.hid hsub
        have HNL := Lib.hid hnl2
        have HQ2 : Hid (2 ≤ m1.parts.length) := Lib.hid (by rw [HM1Q.out]; exact HH2.out)
        have HQ4 : Hid (m1.parts.length ≤ 4) := Lib.hid (by rw [HM1Q.out]; exact HH4.out)
        clear hnl hde hGe hsub hnl2
        by_cases c5 : k < 5
        · have c5I : (k : Int) < 5 := by omega
          go_upto_region 8 with fail
          clear c5I
          have HIAm1 := HIA1
          have HQ2m1 := HQ2
          have HQ4m1 := HQ4
          have HSm1 := HS1
          obtain ⟨s1, hs1⟩ : ∃ s, s = (gpartF e m1 src).1 := ⟨_, rfl⟩
          obtain ⟨m2, hm2⟩ : ∃ M, M = (gpartF e m1 src).2 := ⟨_, rfl⟩
          obtain ⟨m9, hm9⟩ : ∃ M, M = (gpartF e m2 s1).2 := ⟨_, rfl⟩
          have heq : gpartF d m src = ((gpartF e m2 s1).1, m9) := by
            rw [HDE.out, gpartF_seq HNL.out (by rw [← HX.out, ← HK.out]; exact c5), hm9, hm2, hs1, HM1.out]
          have HS1x := Lib.hid hs1
          have HM9 := Lib.hid hm9
          have HEQ := Lib.hid heq
          clear hs1 hm9 heq
          have hm2g : GrowM (gG e) m1 m2 := by rw [hm2]; exact grow_part _ _ _
          have HIAm2 : Hid (IntsAt w A m2.p) := Lib.hid (by rw [hm2g.p]; exact HIAm1.out)
          have HQ2m2 : Hid (2 ≤ m2.parts.length) := Lib.hid (by rw [hm2g.parts]; exact HQ2m1.out)
          have HQ4m2 : Hid (m2.parts.length ≤ 4) := Lib.hid (by rw [hm2g.parts]; exact HQ4m1.out)
          have HSm2 := Lib.hid (hm2g.small HSm1.out)
          have Hm2 := Lib.hid hm2
          clear hm2g hm2
          go_upto_region 8 with fail
          go_cut [12, 13] (fun vx ux wx => ∃ gN, vx = .string (gpartF e m1 src).1 ∧ ux = .pointer (some ⟨gN, 0, none⟩) ∧ NW w A cap ((gpartF e m1 src).2) gN wx)
          case first =>
            obtain ⟨AP, cP, AF, cF, AI, cI, AS, cS, hB, hR, hC, hW⟩ := HPV1.out
            have y0 : V1.cell? ⟨w.heap.size, 0, none⟩ = some (.slice A m1.p.length cap) := hB.cell 0
            have y1 : V1.cell? ⟨w.heap.size, 1, none⟩ = some (.int .i64 m1.at_) := hB.cell 1
            have y2 : V1.cell? ⟨w.heap.size, 2, none⟩ = some (.int .i64 m1.n) := hB.cell 2
            have y3 : V1.cell? ⟨w.heap.size, 3, none⟩ = some (.slice AP m1.parts.length cP) := hB.cell 3
            have y4 : V1.cell? ⟨w.heap.size, 4, none⟩ = some (.slice AF m1.flows.length cF) := hB.cell 4
            have y5 : V1.cell? ⟨w.heap.size, 5, none⟩ = some (.slice AI m1.items.length cI) := hB.cell 5
            have y6 : V1.cell? ⟨w.heap.size, 6, none⟩ = some (.slice AS m1.seqs.length cS) := hB.cell 6
            have y7 : V1.cell? ⟨w.heap.size, 7, none⟩ = some (.string m1.pre) := hB.cell 7
            have HMK0 := Lib.hid (show MkR V1 A cap m1 _ from ⟨AP, cP, AF, cF, AI, cI, AS, cS, rfl, hC⟩)
            have HBB := Lib.hid hB
            have HRR := Lib.hid hR
            have HBL0 := Lib.hid hW
            have hgl := hB.lt
            have hgr := hR.lt
            have hszp := hW.size
            clear hB hR hC hW
            have hsub := HSUB.out
            have HB0 := Lib.hid (Below.refl V1.heap.size V1)
            go_wp2_with fail
            refine (HIE.out.call (HIAm1.out.below HBL0.out) HMK0.out HSm1.out (by have := HKK.out; have := HGE.out; omega) HQ2m1.out HQ4m1.out src).mono ?_
            rintro e w1 ⟨c1, rfl, hM1, hb1⟩
            have HB1 := Lib.hid (HB0.out.trans (hb1.mono HB0.out.size))
            have HBL1 := Lib.hid (HBL0.out.trans (hb1.mono HBL0.out.size))
            clear hb1
            obtain ⟨AP1, cP1, AF1, cF1, AI1, cI1, AS1, cS1, rfl, hC1⟩ := hM1
            clear hsub
            have HN := Lib.hid (NW.laid HPV1.out (m' := (gpartF e m1 src).2) HB1.out hC1)
            clear y0 y1 y2 y3 y4 y5 y6 y7 hC1
            go_wp2_with fail
            go_meet
            case rel => exact ⟨_, rfl, rfl, HN.out⟩
          case rest =>
            obtain ⟨gN, rfl, rfl, hN⟩ := hcut
            obtain ⟨V3, rfl⟩ : ∃ V, V = wc := ⟨_, rfl⟩
            have HN := Lib.hid hN
            clear hN HPV1
            rw [← HS1x.out]
            rw [← Hm2.out] at HN
            obtain ⟨AP, cP, AF, cF, AI, cI, AS, cS, hB, hR, hC, hW⟩ := HN.out
            have y0 : V3.cell? ⟨gN, 0, none⟩ = some (.slice A m2.p.length cap) := hB.cell 0
            have y1 : V3.cell? ⟨gN, 1, none⟩ = some (.int .i64 m2.at_) := hB.cell 1
            have y2 : V3.cell? ⟨gN, 2, none⟩ = some (.int .i64 m2.n) := hB.cell 2
            have y3 : V3.cell? ⟨gN, 3, none⟩ = some (.slice AP m2.parts.length cP) := hB.cell 3
            have y4 : V3.cell? ⟨gN, 4, none⟩ = some (.slice AF m2.flows.length cF) := hB.cell 4
            have y5 : V3.cell? ⟨gN, 5, none⟩ = some (.slice AI m2.items.length cI) := hB.cell 5
            have y6 : V3.cell? ⟨gN, 6, none⟩ = some (.slice AS m2.seqs.length cS) := hB.cell 6
            have y7 : V3.cell? ⟨gN, 7, none⟩ = some (.string m2.pre) := hB.cell 7
            have HMK0 := Lib.hid (show MkR V3 A cap m2 _ from ⟨AP, cP, AF, cF, AI, cI, AS, cS, rfl, hC⟩)
            have HBB := Lib.hid hB
            have HRR := Lib.hid hR
            have HBL0 := Lib.hid hW
            have hgl := hB.lt
            have hgr := hR.lt
            have hszp := hW.size
            clear hB hR hC hW
            have hsub := HSUB.out
            have HB0 := Lib.hid (Below.refl V3.heap.size V3)
            go_wp2_with fail
            refine (HIE.out.call (HIAm2.out.below HBL0.out) HMK0.out HSm2.out (by have := HKK.out; have := HGE.out; omega) HQ2m2.out HQ4m2.out s1).mono ?_
            rintro e w1 ⟨c1, rfl, hM1, hb1⟩
            have HB1 := Lib.hid (HB0.out.trans (hb1.mono HB0.out.size))
            have HBL1 := Lib.hid (HBL0.out.trans (hb1.mono HBL0.out.size))
            clear hb1
            rw [← HM9.out] at hM1
            obtain ⟨AP1, cP1, AF1, cF1, AI1, cI1, AS1, cS1, rfl, hC1⟩ := hM1
            clear hsub
            have hR1 := HRR.out.below HB1.out HRR.out.lt
            have z0 : w1.cell? ⟨w.heap.size + 1, 0, none⟩ = some (.slice none 0 0) := hR1.cell 0
            have z1 : w1.cell? ⟨w.heap.size + 1, 1, none⟩ = some (.int .i64 0) := hR1.cell 1
            have z2 : w1.cell? ⟨w.heap.size + 1, 2, none⟩ = some (.int .i64 0) := hR1.cell 2
            have z3 : w1.cell? ⟨w.heap.size + 1, 3, none⟩ = some (.slice none 0 0) := hR1.cell 3
            have z4 : w1.cell? ⟨w.heap.size + 1, 4, none⟩ = some (.slice none 0 0) := hR1.cell 4
            have z5 : w1.cell? ⟨w.heap.size + 1, 5, none⟩ = some (.slice none 0 0) := hR1.cell 5
            have z6 : w1.cell? ⟨w.heap.size + 1, 6, none⟩ = some (.slice none 0 0) := hR1.cell 6
            have z7 : w1.cell? ⟨w.heap.size + 1, 7, none⟩ = some (.string ⟨#[]⟩) := hR1.cell 7
            have q0 := hR1.frozen 0
            have q1 := hR1.frozen 1
            have q2 := hR1.frozen 2
            have q3 := hR1.frozen 3
            have q4 := hR1.frozen 4
            have q5 := hR1.frozen 5
            have q6 := hR1.frozen 6
            have q7 := hR1.frozen 7
            have hl1 := hR1.lt
            have HR1 := Lib.hid hR1
            have HE := Lib.hid (MkR.fin (A := A) (cap := cap) (M := m9) HRR.out HBL0.out HB1.out hC1 (.string ((gpartF e m2 s1).1)))
            clear y0 y1 y2 y3 y4 y5 y6 y7 hC1 hR1
            go_wp2_with fail
            have hblk := putAll_blk [.slice A m9.p.length cap, .int .i64 m9.at_, .int .i64 m9.n, .slice AP1 m9.parts.length cP1, .slice AF1 m9.flows.length cF1, .slice AI1 m9.items.length cI1, .slice AS1 m9.seqs.length cS1, .string m9.pre] 0 w1 _ HR1.out rfl
            have hend : MkEnd w A cap (.string (gpartF d m src).1) (gpartF d m src).2 (.returned (.tuple #[.string ((gpartF e m2 s1).1), .agg #[.slice A m9.p.length cap, .int .i64 m9.at_, .int .i64 m9.n, .slice AP1 m9.parts.length cP1, .slice AF1 m9.flows.length cF1, .slice AI1 m9.items.length cI1, .slice AS1 m9.seqs.length cS1, .string m9.pre]])) (putAll w1 (w.heap.size + 1) 0 [.slice A m9.p.length cap, .int .i64 m9.at_, .int .i64 m9.n, .slice AP1 m9.parts.length cP1, .slice AF1 m9.flows.length cF1, .slice AI1 m9.items.length cI1, .slice AS1 m9.seqs.length cS1, .string m9.pre]) := by
              rw [HEQ.out]
              exact HE.out
            exact bodyPost_ret (ret_part hblk rfl rfl) rfl hend
        · have c5I : ¬ (k : Int) < 5 := by omega
          go_upto_if 68 with fail
          clear c5I
          go_cut [14] (fun v wx => v = .int .i64 (gkind k) ∧ wx = V1)
          case first =>
            by_cases c7 : k = 7
            · have e7 : ((k : Int) == 7) = true := by rw [c7]; rfl
              have e9 : gkind k = 5 := by unfold gkind; rw [if_pos c7]
              have HE := Lib.hid e9
              clear c7 e9
              go_wp2_with fail
              go_meet
              case rel => exact ⟨by rw [HE.out], rfl⟩
            · have e7 : ((k : Int) == 7) = false := by simp; omega
              have e9 : gkind k = 4 := by unfold gkind; rw [if_neg c7]
              have HE := Lib.hid e9
              clear c7 e9
              go_wp2_with fail
              go_meet
              case rel => exact ⟨by rw [HE.out], rfl⟩
          case rest =>
            obtain ⟨rfl, hwc⟩ := hcut
            rw [hwc]
            clear hwc
            have HIAm1 := HIA1
            have HQ2m1 := HQ2
            have HQ4m1 := HQ4
            have HSm1 := HS1
            obtain ⟨kd, hkd⟩ : ∃ z, z = gkind k := ⟨_, rfl⟩
            obtain ⟨a, ha⟩ : ∃ z, z = gnameF m1 chG := ⟨_, rfl⟩
            obtain ⟨m2, hm2⟩ : ∃ M, M = gnamedF m1 := ⟨_, rfl⟩
            obtain ⟨m3, hm3⟩ : ∃ M, M = gseqF (gitemF m2 (gitem0 kd a)) src a := ⟨_, rfl⟩
            obtain ⟨s, hs⟩ : ∃ z, z = (gpartF e m3 a).1 := ⟨_, rfl⟩
            obtain ⟨m4, hm4⟩ : ∃ M, M = (gpartF e m3 a).2 := ⟨_, rfl⟩
            obtain ⟨t, ht⟩ : ∃ z, z = (gpartF e m4 a).1 := ⟨_, rfl⟩
            obtain ⟨m5, hm5⟩ : ∃ M, M = (gpartF e m4 a).2 := ⟨_, rfl⟩
            obtain ⟨b, hb⟩ : ∃ z, z = gnameF m5 chG := ⟨_, rfl⟩
            obtain ⟨m6, hm6⟩ : ∃ M, M = gnamedF m5 := ⟨_, rfl⟩
            obtain ⟨m7, hm7⟩ : ∃ M, M = gseqF (gseqF (gitemF m6 (gitem0 kd b)) s b) t b := ⟨_, rfl⟩
            obtain ⟨cl, hcl⟩ : ∃ z, z = decide (k ≠ 7 ∧ x / 1048576 % 4 = 0) := ⟨_, rfl⟩
            have heq : gpartF d m src = (b, if k ≠ 7 ∧ x / 1048576 % 4 = 0 then gseqF m7 b a else m7) := by
              have h3 : m3 = gopenF (gnextF m) src k := by rw [hm3, hm2, ha, hkd, HM1.out]; rfl
              have ha' : a = gnameF (gnextF m) chG := by rw [ha, HM1.out]
              rw [HDE.out, gpartF_both HNL.out (by rw [← HX.out, ← HK.out]; exact c5)]
              dsimp only
              rw [← HX.out, ← HK.out, ← h3, ← ha', ← hs, ← hm4, ← ht, ← hm5, ← hb]
              unfold gcloseF
              rw [hm7, hm6, hb, hkd]
            have HKD := Lib.hid hkd
            have HA := Lib.hid ha
            have HSS := Lib.hid hs
            have HTT := Lib.hid ht
            have HBB0 := Lib.hid hb
            have HCL := Lib.hid hcl
            have HEQ0 := Lib.hid heq
            clear hkd ha hs ht hb hcl heq
            have hm2g : GrowM (1) m1 m2 := by rw [hm2]; exact grow_named _
            have HIAm2 : Hid (IntsAt w A m2.p) := Lib.hid (by rw [hm2g.p]; exact HIAm1.out)
            have HQ2m2 : Hid (2 ≤ m2.parts.length) := Lib.hid (by rw [hm2g.parts]; exact HQ2m1.out)
            have HQ4m2 : Hid (m2.parts.length ≤ 4) := Lib.hid (by rw [hm2g.parts]; exact HQ4m1.out)
            have HSm2 := Lib.hid (hm2g.small HSm1.out)
            have Hm2 := Lib.hid hm2
            clear hm2g hm2
            have hm3g : GrowM (2) m2 m3 := by rw [hm3]; exact (grow_item _ _).trans (grow_seq _ _ _)
            have HIAm3 : Hid (IntsAt w A m3.p) := Lib.hid (by rw [hm3g.p]; exact HIAm2.out)
            have HQ2m3 : Hid (2 ≤ m3.parts.length) := Lib.hid (by rw [hm3g.parts]; exact HQ2m2.out)
            have HQ4m3 : Hid (m3.parts.length ≤ 4) := Lib.hid (by rw [hm3g.parts]; exact HQ4m2.out)
            have HSm3 := Lib.hid (hm3g.small HSm2.out)
            have Hm3 := Lib.hid hm3
            clear hm3g hm3
            have hm4g : GrowM (gG e) m3 m4 := by rw [hm4]; exact grow_part _ _ _
            have HIAm4 : Hid (IntsAt w A m4.p) := Lib.hid (by rw [hm4g.p]; exact HIAm3.out)
            have HQ2m4 : Hid (2 ≤ m4.parts.length) := Lib.hid (by rw [hm4g.parts]; exact HQ2m3.out)
            have HQ4m4 : Hid (m4.parts.length ≤ 4) := Lib.hid (by rw [hm4g.parts]; exact HQ4m3.out)
            have HSm4 := Lib.hid (hm4g.small HSm3.out)
            have Hm4 := Lib.hid hm4
            clear hm4g hm4
            have hm5g : GrowM (gG e) m4 m5 := by rw [hm5]; exact grow_part _ _ _
            have HIAm5 : Hid (IntsAt w A m5.p) := Lib.hid (by rw [hm5g.p]; exact HIAm4.out)
            have HQ2m5 : Hid (2 ≤ m5.parts.length) := Lib.hid (by rw [hm5g.parts]; exact HQ2m4.out)
            have HQ4m5 : Hid (m5.parts.length ≤ 4) := Lib.hid (by rw [hm5g.parts]; exact HQ4m4.out)
            have HSm5 := Lib.hid (hm5g.small HSm4.out)
            have Hm5 := Lib.hid hm5
            clear hm5g hm5
            have hm6g : GrowM (1) m5 m6 := by rw [hm6]; exact grow_named _
            have HIAm6 : Hid (IntsAt w A m6.p) := Lib.hid (by rw [hm6g.p]; exact HIAm5.out)
            have HQ2m6 : Hid (2 ≤ m6.parts.length) := Lib.hid (by rw [hm6g.parts]; exact HQ2m5.out)
            have HQ4m6 : Hid (m6.parts.length ≤ 4) := Lib.hid (by rw [hm6g.parts]; exact HQ4m5.out)
            have HSm6 := Lib.hid (hm6g.small HSm5.out)
            have Hm6 := Lib.hid hm6
            clear hm6g hm6
            have hm7g : GrowM (3) m6 m7 := by rw [hm7]; exact ((grow_item _ _).trans (grow_seq _ _ _)).trans (grow_seq _ _ _)
            have HIAm7 : Hid (IntsAt w A m7.p) := Lib.hid (by rw [hm7g.p]; exact HIAm6.out)
            have HQ2m7 : Hid (2 ≤ m7.parts.length) := Lib.hid (by rw [hm7g.parts]; exact HQ2m6.out)
            have HQ4m7 : Hid (m7.parts.length ≤ 4) := Lib.hid (by rw [hm7g.parts]; exact HQ4m6.out)
            have HSm7 := Lib.hid (hm7g.small HSm6.out)
            have Hm7 := Lib.hid hm7
            clear hm7g hm7
            rw [← HKD.out]
            go_upto_region 14 with fail
            go_cut [15] (fun v0x wx => v0x = .string (gnameF m1 chG) ∧ PW w A cap (gnamedF m1) wx)
            case first =>
              obtain ⟨AP, cP, AF, cF, AI, cI, AS, cS, hB, hR, hC, hW⟩ := HPV1.out
              have y0 : V1.cell? ⟨w.heap.size, 0, none⟩ = some (.slice A m1.p.length cap) := hB.cell 0
              have y1 : V1.cell? ⟨w.heap.size, 1, none⟩ = some (.int .i64 m1.at_) := hB.cell 1
              have y2 : V1.cell? ⟨w.heap.size, 2, none⟩ = some (.int .i64 m1.n) := hB.cell 2
              have y3 : V1.cell? ⟨w.heap.size, 3, none⟩ = some (.slice AP m1.parts.length cP) := hB.cell 3
              have y4 : V1.cell? ⟨w.heap.size, 4, none⟩ = some (.slice AF m1.flows.length cF) := hB.cell 4
              have y5 : V1.cell? ⟨w.heap.size, 5, none⟩ = some (.slice AI m1.items.length cI) := hB.cell 5
              have y6 : V1.cell? ⟨w.heap.size, 6, none⟩ = some (.slice AS m1.seqs.length cS) := hB.cell 6
              have y7 : V1.cell? ⟨w.heap.size, 7, none⟩ = some (.string m1.pre) := hB.cell 7
              have HMK0 := Lib.hid (show MkR V1 A cap m1 _ from ⟨AP, cP, AF, cF, AI, cI, AS, cS, rfl, hC⟩)
              have HBB := Lib.hid hB
              have HRR := Lib.hid hR
              have HBL0 := Lib.hid hW
              have hgl := hB.lt
              have hgr := hR.lt
              have hszp := hW.size
              clear hB hR hC hW
              have HB0 := Lib.hid (Below.refl V1.heap.size V1)
              go_wp2_with fail
              refine (name_any HMK0.out (HSm1.out.mono (by have := HKK.out; have := HGE.out; omega)) chG (by decide)).mono ?_
              rintro e w1 ⟨c1, rfl, hM1, hb1⟩
              have HB1 := Lib.hid (HB0.out.trans (hb1.mono HB0.out.size))
              have HBL1 := Lib.hid (HBL0.out.trans (hb1.mono HBL0.out.size))
              clear hb1
              obtain ⟨AP1, cP1, AF1, cF1, AI1, cI1, AS1, cS1, rfl, hC1⟩ := hM1
              have HP1 := Lib.hid (HPV1.out.put (m' := gnamedF m1) HB1.out hC1)
              have hB2 := HBB.out.below HB1.out HBB.out.lt
              have z0 : w1.cell? ⟨w.heap.size, 0, none⟩ = some (.slice A m1.p.length cap) := hB2.cell 0
              have z1 : w1.cell? ⟨w.heap.size, 1, none⟩ = some (.int .i64 m1.at_) := hB2.cell 1
              have z2 : w1.cell? ⟨w.heap.size, 2, none⟩ = some (.int .i64 m1.n) := hB2.cell 2
              have z3 : w1.cell? ⟨w.heap.size, 3, none⟩ = some (.slice AP m1.parts.length cP) := hB2.cell 3
              have z4 : w1.cell? ⟨w.heap.size, 4, none⟩ = some (.slice AF m1.flows.length cF) := hB2.cell 4
              have z5 : w1.cell? ⟨w.heap.size, 5, none⟩ = some (.slice AI m1.items.length cI) := hB2.cell 5
              have z6 : w1.cell? ⟨w.heap.size, 6, none⟩ = some (.slice AS m1.seqs.length cS) := hB2.cell 6
              have z7 : w1.cell? ⟨w.heap.size, 7, none⟩ = some (.string m1.pre) := hB2.cell 7
              have q0 := hB2.frozen 0
              have q1 := hB2.frozen 1
              have q2 := hB2.frozen 2
              have q3 := hB2.frozen 3
              have q4 := hB2.frozen 4
              have q5 := hB2.frozen 5
              have q6 := hB2.frozen 6
              have q7 := hB2.frozen 7
              have hgl1 := hB2.lt
              clear y0 y1 y2 y3 y4 y5 y6 y7 hB2 hC1
              go_wp2_with fail
              go_meet
              case rel => exact ⟨rfl, HP1.out⟩
            case rest =>
              obtain ⟨rfl, hP⟩ := hcut
              obtain ⟨V2, rfl⟩ : ∃ V, V = wc := ⟨_, rfl⟩
              have HPV2 := Lib.hid hP
              clear hP HPV1
              rw [← HA.out]
              rw [← Hm2.out] at HPV2
              go_upto_region 15 with fail
              go_cut [] (fun wx => PW w A cap (gseqF (gitemF m2 (gitem0 kd a)) src a) wx)
              case first =>
                obtain ⟨AP, cP, AF, cF, AI, cI, AS, cS, hB, hR, hC, hW⟩ := HPV2.out
                have y0 : V2.cell? ⟨w.heap.size, 0, none⟩ = some (.slice A m2.p.length cap) := hB.cell 0
                have y1 : V2.cell? ⟨w.heap.size, 1, none⟩ = some (.int .i64 m2.at_) := hB.cell 1
                have y2 : V2.cell? ⟨w.heap.size, 2, none⟩ = some (.int .i64 m2.n) := hB.cell 2
                have y3 : V2.cell? ⟨w.heap.size, 3, none⟩ = some (.slice AP m2.parts.length cP) := hB.cell 3
                have y4 : V2.cell? ⟨w.heap.size, 4, none⟩ = some (.slice AF m2.flows.length cF) := hB.cell 4
                have y5 : V2.cell? ⟨w.heap.size, 5, none⟩ = some (.slice AI m2.items.length cI) := hB.cell 5
                have y6 : V2.cell? ⟨w.heap.size, 6, none⟩ = some (.slice AS m2.seqs.length cS) := hB.cell 6
                have y7 : V2.cell? ⟨w.heap.size, 7, none⟩ = some (.string m2.pre) := hB.cell 7
                have HMK0 := Lib.hid (show MkR V2 A cap m2 _ from ⟨AP, cP, AF, cF, AI, cI, AS, cS, rfl, hC⟩)
                have HBB := Lib.hid hB
                have HRR := Lib.hid hR
                have HBL0 := Lib.hid hW
                have hgl := hB.lt
                have hgr := hR.lt
                have hszp := hW.size
                clear hB hR hC hW
                have HB0 := Lib.hid (Below.refl V2.heap.size V2)
                go_wp2_with fail
                refine (item_any HMK0.out (item0R _ kd a) (HSm2.out.mono (by have := HKK.out; have := HGE.out; omega))).mono ?_
                rintro e w1 ⟨c1, rfl, hM1, hb1⟩
                have HB1 := Lib.hid (HB0.out.trans (hb1.mono HB0.out.size))
                have HBL1 := Lib.hid (HBL0.out.trans (hb1.mono HBL0.out.size))
                have HMK1 := Lib.hid hM1
                clear hM1 hb1
                go_wp2_with fail
                refine (seq_any HMK1.out (((grow_item m2 (gitem0 kd a)).small HSm2.out).mono (by have := HKK.out; have := HGE.out; omega)) src a).mono ?_
                rintro e w2 ⟨c2, rfl, hM2, hb2⟩
                have HB2 := Lib.hid (HB1.out.trans (hb2.mono HB1.out.size))
                have HBL2 := Lib.hid (HBL1.out.trans (hb2.mono HBL1.out.size))
                clear hb2
                obtain ⟨AP1, cP1, AF1, cF1, AI1, cI1, AS1, cS1, rfl, hC1⟩ := hM2
                have HP1 := Lib.hid (HPV2.out.put (m' := gseqF (gitemF m2 (gitem0 kd a)) src a) HB2.out hC1)
                have hB2 := HBB.out.below HB2.out HBB.out.lt
                have z0 : w2.cell? ⟨w.heap.size, 0, none⟩ = some (.slice A m2.p.length cap) := hB2.cell 0
                have z1 : w2.cell? ⟨w.heap.size, 1, none⟩ = some (.int .i64 m2.at_) := hB2.cell 1
                have z2 : w2.cell? ⟨w.heap.size, 2, none⟩ = some (.int .i64 m2.n) := hB2.cell 2
                have z3 : w2.cell? ⟨w.heap.size, 3, none⟩ = some (.slice AP m2.parts.length cP) := hB2.cell 3
                have z4 : w2.cell? ⟨w.heap.size, 4, none⟩ = some (.slice AF m2.flows.length cF) := hB2.cell 4
                have z5 : w2.cell? ⟨w.heap.size, 5, none⟩ = some (.slice AI m2.items.length cI) := hB2.cell 5
                have z6 : w2.cell? ⟨w.heap.size, 6, none⟩ = some (.slice AS m2.seqs.length cS) := hB2.cell 6
                have z7 : w2.cell? ⟨w.heap.size, 7, none⟩ = some (.string m2.pre) := hB2.cell 7
                have q0 := hB2.frozen 0
                have q1 := hB2.frozen 1
                have q2 := hB2.frozen 2
                have q3 := hB2.frozen 3
                have q4 := hB2.frozen 4
                have q5 := hB2.frozen 5
                have q6 := hB2.frozen 6
                have q7 := hB2.frozen 7
                have hgl1 := hB2.lt
                clear y0 y1 y2 y3 y4 y5 y6 y7 hB2 hC1
                go_wp2_with fail
                go_meet
                case rel => exact HP1.out
              case rest =>
                have hP := hcut
                clear hcut
                obtain ⟨V3, rfl⟩ : ∃ V, V = wc := ⟨_, rfl⟩
                have HPV3 := Lib.hid hP
                clear hP HPV2
                rw [← Hm3.out] at HPV3
                go_upto_region 16 with fail
                go_cut [17] (fun v0x wx => v0x = .string (gpartF e m3 a).1 ∧ PW w A cap ((gpartF e m3 a).2) wx)
                case first =>
                  obtain ⟨AP, cP, AF, cF, AI, cI, AS, cS, hB, hR, hC, hW⟩ := HPV3.out
                  have y0 : V3.cell? ⟨w.heap.size, 0, none⟩ = some (.slice A m3.p.length cap) := hB.cell 0
                  have y1 : V3.cell? ⟨w.heap.size, 1, none⟩ = some (.int .i64 m3.at_) := hB.cell 1
                  have y2 : V3.cell? ⟨w.heap.size, 2, none⟩ = some (.int .i64 m3.n) := hB.cell 2
                  have y3 : V3.cell? ⟨w.heap.size, 3, none⟩ = some (.slice AP m3.parts.length cP) := hB.cell 3
                  have y4 : V3.cell? ⟨w.heap.size, 4, none⟩ = some (.slice AF m3.flows.length cF) := hB.cell 4
                  have y5 : V3.cell? ⟨w.heap.size, 5, none⟩ = some (.slice AI m3.items.length cI) := hB.cell 5
                  have y6 : V3.cell? ⟨w.heap.size, 6, none⟩ = some (.slice AS m3.seqs.length cS) := hB.cell 6
                  have y7 : V3.cell? ⟨w.heap.size, 7, none⟩ = some (.string m3.pre) := hB.cell 7
                  have HMK0 := Lib.hid (show MkR V3 A cap m3 _ from ⟨AP, cP, AF, cF, AI, cI, AS, cS, rfl, hC⟩)
                  have HBB := Lib.hid hB
                  have HRR := Lib.hid hR
                  have HBL0 := Lib.hid hW
                  have hgl := hB.lt
                  have hgr := hR.lt
                  have hszp := hW.size
                  clear hB hR hC hW
                  have hsub := HSUB.out
                  have HB0 := Lib.hid (Below.refl V3.heap.size V3)
                  go_wp2_with fail
                  refine (HIE.out.call (HIAm3.out.below HBL0.out) HMK0.out HSm3.out (by have := HKK.out; have := HGE.out; omega) HQ2m3.out HQ4m3.out a).mono ?_
                  rintro e w1 ⟨c1, rfl, hM1, hb1⟩
                  have HB1 := Lib.hid (HB0.out.trans (hb1.mono HB0.out.size))
                  have HBL1 := Lib.hid (HBL0.out.trans (hb1.mono HBL0.out.size))
                  clear hb1
                  obtain ⟨AP1, cP1, AF1, cF1, AI1, cI1, AS1, cS1, rfl, hC1⟩ := hM1
                  clear hsub
                  have HP1 := Lib.hid (HPV3.out.put (m' := (gpartF e m3 a).2) HB1.out hC1)
                  have hB2 := HBB.out.below HB1.out HBB.out.lt
                  have z0 : w1.cell? ⟨w.heap.size, 0, none⟩ = some (.slice A m3.p.length cap) := hB2.cell 0
                  have z1 : w1.cell? ⟨w.heap.size, 1, none⟩ = some (.int .i64 m3.at_) := hB2.cell 1
                  have z2 : w1.cell? ⟨w.heap.size, 2, none⟩ = some (.int .i64 m3.n) := hB2.cell 2
                  have z3 : w1.cell? ⟨w.heap.size, 3, none⟩ = some (.slice AP m3.parts.length cP) := hB2.cell 3
                  have z4 : w1.cell? ⟨w.heap.size, 4, none⟩ = some (.slice AF m3.flows.length cF) := hB2.cell 4
                  have z5 : w1.cell? ⟨w.heap.size, 5, none⟩ = some (.slice AI m3.items.length cI) := hB2.cell 5
                  have z6 : w1.cell? ⟨w.heap.size, 6, none⟩ = some (.slice AS m3.seqs.length cS) := hB2.cell 6
                  have z7 : w1.cell? ⟨w.heap.size, 7, none⟩ = some (.string m3.pre) := hB2.cell 7
                  have q0 := hB2.frozen 0
                  have q1 := hB2.frozen 1
                  have q2 := hB2.frozen 2
                  have q3 := hB2.frozen 3
                  have q4 := hB2.frozen 4
                  have q5 := hB2.frozen 5
                  have q6 := hB2.frozen 6
                  have q7 := hB2.frozen 7
                  have hgl1 := hB2.lt
                  clear y0 y1 y2 y3 y4 y5 y6 y7 hB2 hC1
                  go_wp2_with fail
                  go_meet
                  case rel => exact ⟨rfl, HP1.out⟩
                case rest =>
                  obtain ⟨rfl, hP⟩ := hcut
                  obtain ⟨V4, rfl⟩ : ∃ V, V = wc := ⟨_, rfl⟩
                  have HPV4 := Lib.hid hP
                  clear hP HPV3
                  rw [← HSS.out]
                  rw [← Hm4.out] at HPV4
                  go_upto_region 17 with fail
                  go_cut [18] (fun v0x wx => v0x = .string (gpartF e m4 a).1 ∧ PW w A cap ((gpartF e m4 a).2) wx)
                  case first =>
                    obtain ⟨AP, cP, AF, cF, AI, cI, AS, cS, hB, hR, hC, hW⟩ := HPV4.out
                    have y0 : V4.cell? ⟨w.heap.size, 0, none⟩ = some (.slice A m4.p.length cap) := hB.cell 0
                    have y1 : V4.cell? ⟨w.heap.size, 1, none⟩ = some (.int .i64 m4.at_) := hB.cell 1
                    have y2 : V4.cell? ⟨w.heap.size, 2, none⟩ = some (.int .i64 m4.n) := hB.cell 2
                    have y3 : V4.cell? ⟨w.heap.size, 3, none⟩ = some (.slice AP m4.parts.length cP) := hB.cell 3
                    have y4 : V4.cell? ⟨w.heap.size, 4, none⟩ = some (.slice AF m4.flows.length cF) := hB.cell 4
                    have y5 : V4.cell? ⟨w.heap.size, 5, none⟩ = some (.slice AI m4.items.length cI) := hB.cell 5
                    have y6 : V4.cell? ⟨w.heap.size, 6, none⟩ = some (.slice AS m4.seqs.length cS) := hB.cell 6
                    have y7 : V4.cell? ⟨w.heap.size, 7, none⟩ = some (.string m4.pre) := hB.cell 7
                    have HMK0 := Lib.hid (show MkR V4 A cap m4 _ from ⟨AP, cP, AF, cF, AI, cI, AS, cS, rfl, hC⟩)
                    have HBB := Lib.hid hB
                    have HRR := Lib.hid hR
                    have HBL0 := Lib.hid hW
                    have hgl := hB.lt
                    have hgr := hR.lt
                    have hszp := hW.size
                    clear hB hR hC hW
                    have hsub := HSUB.out
                    have HB0 := Lib.hid (Below.refl V4.heap.size V4)
                    go_wp2_with fail
                    refine (HIE.out.call (HIAm4.out.below HBL0.out) HMK0.out HSm4.out (by have := HKK.out; have := HGE.out; omega) HQ2m4.out HQ4m4.out a).mono ?_
                    rintro e w1 ⟨c1, rfl, hM1, hb1⟩
                    have HB1 := Lib.hid (HB0.out.trans (hb1.mono HB0.out.size))
                    have HBL1 := Lib.hid (HBL0.out.trans (hb1.mono HBL0.out.size))
                    clear hb1
                    obtain ⟨AP1, cP1, AF1, cF1, AI1, cI1, AS1, cS1, rfl, hC1⟩ := hM1
                    clear hsub
                    have HP1 := Lib.hid (HPV4.out.put (m' := (gpartF e m4 a).2) HB1.out hC1)
                    have hB2 := HBB.out.below HB1.out HBB.out.lt
                    have z0 : w1.cell? ⟨w.heap.size, 0, none⟩ = some (.slice A m4.p.length cap) := hB2.cell 0
                    have z1 : w1.cell? ⟨w.heap.size, 1, none⟩ = some (.int .i64 m4.at_) := hB2.cell 1
                    have z2 : w1.cell? ⟨w.heap.size, 2, none⟩ = some (.int .i64 m4.n) := hB2.cell 2
                    have z3 : w1.cell? ⟨w.heap.size, 3, none⟩ = some (.slice AP m4.parts.length cP) := hB2.cell 3
                    have z4 : w1.cell? ⟨w.heap.size, 4, none⟩ = some (.slice AF m4.flows.length cF) := hB2.cell 4
                    have z5 : w1.cell? ⟨w.heap.size, 5, none⟩ = some (.slice AI m4.items.length cI) := hB2.cell 5
                    have z6 : w1.cell? ⟨w.heap.size, 6, none⟩ = some (.slice AS m4.seqs.length cS) := hB2.cell 6
                    have z7 : w1.cell? ⟨w.heap.size, 7, none⟩ = some (.string m4.pre) := hB2.cell 7
                    have q0 := hB2.frozen 0
                    have q1 := hB2.frozen 1
                    have q2 := hB2.frozen 2
                    have q3 := hB2.frozen 3
                    have q4 := hB2.frozen 4
                    have q5 := hB2.frozen 5
                    have q6 := hB2.frozen 6
                    have q7 := hB2.frozen 7
                    have hgl1 := hB2.lt
                    clear y0 y1 y2 y3 y4 y5 y6 y7 hB2 hC1
                    go_wp2_with fail
                    go_meet
                    case rel => exact ⟨rfl, HP1.out⟩
                  case rest =>
                    obtain ⟨rfl, hP⟩ := hcut
                    obtain ⟨V5, rfl⟩ : ∃ V, V = wc := ⟨_, rfl⟩
                    have HPV5 := Lib.hid hP
                    clear hP HPV4
                    rw [← HTT.out]
                    rw [← Hm5.out] at HPV5
                    go_upto_region 18 with fail
                    go_cut [16] (fun v0x wx => v0x = .string (gnameF m5 chG) ∧ PW w A cap (gnamedF m5) wx)
                    case first =>
                      obtain ⟨AP, cP, AF, cF, AI, cI, AS, cS, hB, hR, hC, hW⟩ := HPV5.out
                      have y0 : V5.cell? ⟨w.heap.size, 0, none⟩ = some (.slice A m5.p.length cap) := hB.cell 0
                      have y1 : V5.cell? ⟨w.heap.size, 1, none⟩ = some (.int .i64 m5.at_) := hB.cell 1
                      have y2 : V5.cell? ⟨w.heap.size, 2, none⟩ = some (.int .i64 m5.n) := hB.cell 2
                      have y3 : V5.cell? ⟨w.heap.size, 3, none⟩ = some (.slice AP m5.parts.length cP) := hB.cell 3
                      have y4 : V5.cell? ⟨w.heap.size, 4, none⟩ = some (.slice AF m5.flows.length cF) := hB.cell 4
                      have y5 : V5.cell? ⟨w.heap.size, 5, none⟩ = some (.slice AI m5.items.length cI) := hB.cell 5
                      have y6 : V5.cell? ⟨w.heap.size, 6, none⟩ = some (.slice AS m5.seqs.length cS) := hB.cell 6
                      have y7 : V5.cell? ⟨w.heap.size, 7, none⟩ = some (.string m5.pre) := hB.cell 7
                      have HMK0 := Lib.hid (show MkR V5 A cap m5 _ from ⟨AP, cP, AF, cF, AI, cI, AS, cS, rfl, hC⟩)
                      have HBB := Lib.hid hB
                      have HRR := Lib.hid hR
                      have HBL0 := Lib.hid hW
                      have hgl := hB.lt
                      have hgr := hR.lt
                      have hszp := hW.size
                      clear hB hR hC hW
                      have HB0 := Lib.hid (Below.refl V5.heap.size V5)
                      go_wp2_with fail
                      refine (name_any HMK0.out (HSm5.out.mono (by have := HKK.out; have := HGE.out; omega)) chG (by decide)).mono ?_
                      rintro e w1 ⟨c1, rfl, hM1, hb1⟩
                      have HB1 := Lib.hid (HB0.out.trans (hb1.mono HB0.out.size))
                      have HBL1 := Lib.hid (HBL0.out.trans (hb1.mono HBL0.out.size))
                      clear hb1
                      obtain ⟨AP1, cP1, AF1, cF1, AI1, cI1, AS1, cS1, rfl, hC1⟩ := hM1
                      have HP1 := Lib.hid (HPV5.out.put (m' := gnamedF m5) HB1.out hC1)
                      have hB2 := HBB.out.below HB1.out HBB.out.lt
                      have z0 : w1.cell? ⟨w.heap.size, 0, none⟩ = some (.slice A m5.p.length cap) := hB2.cell 0
                      have z1 : w1.cell? ⟨w.heap.size, 1, none⟩ = some (.int .i64 m5.at_) := hB2.cell 1
                      have z2 : w1.cell? ⟨w.heap.size, 2, none⟩ = some (.int .i64 m5.n) := hB2.cell 2
                      have z3 : w1.cell? ⟨w.heap.size, 3, none⟩ = some (.slice AP m5.parts.length cP) := hB2.cell 3
                      have z4 : w1.cell? ⟨w.heap.size, 4, none⟩ = some (.slice AF m5.flows.length cF) := hB2.cell 4
                      have z5 : w1.cell? ⟨w.heap.size, 5, none⟩ = some (.slice AI m5.items.length cI) := hB2.cell 5
                      have z6 : w1.cell? ⟨w.heap.size, 6, none⟩ = some (.slice AS m5.seqs.length cS) := hB2.cell 6
                      have z7 : w1.cell? ⟨w.heap.size, 7, none⟩ = some (.string m5.pre) := hB2.cell 7
                      have q0 := hB2.frozen 0
                      have q1 := hB2.frozen 1
                      have q2 := hB2.frozen 2
                      have q3 := hB2.frozen 3
                      have q4 := hB2.frozen 4
                      have q5 := hB2.frozen 5
                      have q6 := hB2.frozen 6
                      have q7 := hB2.frozen 7
                      have hgl1 := hB2.lt
                      clear y0 y1 y2 y3 y4 y5 y6 y7 hB2 hC1
                      go_wp2_with fail
                      go_meet
                      case rel => exact ⟨rfl, HP1.out⟩
                    case rest =>
                      obtain ⟨rfl, hP⟩ := hcut
                      obtain ⟨V6, rfl⟩ : ∃ V, V = wc := ⟨_, rfl⟩
                      have HPV6 := Lib.hid hP
                      clear hP HPV5
                      rw [← HBB0.out]
                      rw [← Hm6.out] at HPV6
                      go_upto_region 19 with fail
                      go_cut [] (fun wx => PW w A cap (gseqF (gseqF (gitemF m6 (gitem0 kd b)) s b) t b) wx)
                      case first =>
                        obtain ⟨AP, cP, AF, cF, AI, cI, AS, cS, hB, hR, hC, hW⟩ := HPV6.out
                        have y0 : V6.cell? ⟨w.heap.size, 0, none⟩ = some (.slice A m6.p.length cap) := hB.cell 0
                        have y1 : V6.cell? ⟨w.heap.size, 1, none⟩ = some (.int .i64 m6.at_) := hB.cell 1
                        have y2 : V6.cell? ⟨w.heap.size, 2, none⟩ = some (.int .i64 m6.n) := hB.cell 2
                        have y3 : V6.cell? ⟨w.heap.size, 3, none⟩ = some (.slice AP m6.parts.length cP) := hB.cell 3
                        have y4 : V6.cell? ⟨w.heap.size, 4, none⟩ = some (.slice AF m6.flows.length cF) := hB.cell 4
                        have y5 : V6.cell? ⟨w.heap.size, 5, none⟩ = some (.slice AI m6.items.length cI) := hB.cell 5
                        have y6 : V6.cell? ⟨w.heap.size, 6, none⟩ = some (.slice AS m6.seqs.length cS) := hB.cell 6
                        have y7 : V6.cell? ⟨w.heap.size, 7, none⟩ = some (.string m6.pre) := hB.cell 7
                        have HMK0 := Lib.hid (show MkR V6 A cap m6 _ from ⟨AP, cP, AF, cF, AI, cI, AS, cS, rfl, hC⟩)
                        have HBB := Lib.hid hB
                        have HRR := Lib.hid hR
                        have HBL0 := Lib.hid hW
                        have hgl := hB.lt
                        have hgr := hR.lt
                        have hszp := hW.size
                        clear hB hR hC hW
                        have HB0 := Lib.hid (Below.refl V6.heap.size V6)
                        go_wp2_with fail
                        refine (item_any HMK0.out (item0R _ kd b) (HSm6.out.mono (by have := HKK.out; have := HGE.out; omega))).mono ?_
                        rintro e w1 ⟨c1, rfl, hM1, hb1⟩
                        have HB1 := Lib.hid (HB0.out.trans (hb1.mono HB0.out.size))
                        have HBL1 := Lib.hid (HBL0.out.trans (hb1.mono HBL0.out.size))
                        have HMK1 := Lib.hid hM1
                        clear hM1 hb1
                        go_wp2_with fail
                        refine (seq_any HMK1.out (((grow_item m6 (gitem0 kd b)).small HSm6.out).mono (by have := HKK.out; have := HGE.out; omega)) s b).mono ?_
                        rintro e w2 ⟨c2, rfl, hM2, hb2⟩
                        have HB2 := Lib.hid (HB1.out.trans (hb2.mono HB1.out.size))
                        have HBL2 := Lib.hid (HBL1.out.trans (hb2.mono HBL1.out.size))
                        have HMK2 := Lib.hid hM2
                        clear hM2 hb2
                        go_wp2_with fail
                        refine (seq_any HMK2.out ((((grow_item m6 (gitem0 kd b)).trans (grow_seq _ s b)).small HSm6.out).mono (by have := HKK.out; have := HGE.out; omega)) t b).mono ?_
                        rintro e w3 ⟨c3, rfl, hM3, hb3⟩
                        have HB3 := Lib.hid (HB2.out.trans (hb3.mono HB2.out.size))
                        have HBL3 := Lib.hid (HBL2.out.trans (hb3.mono HBL2.out.size))
                        clear hb3
                        obtain ⟨AP1, cP1, AF1, cF1, AI1, cI1, AS1, cS1, rfl, hC1⟩ := hM3
                        have HP1 := Lib.hid (HPV6.out.put (m' := gseqF (gseqF (gitemF m6 (gitem0 kd b)) s b) t b) HB3.out hC1)
                        have hB2 := HBB.out.below HB3.out HBB.out.lt
                        have z0 : w3.cell? ⟨w.heap.size, 0, none⟩ = some (.slice A m6.p.length cap) := hB2.cell 0
                        have z1 : w3.cell? ⟨w.heap.size, 1, none⟩ = some (.int .i64 m6.at_) := hB2.cell 1
                        have z2 : w3.cell? ⟨w.heap.size, 2, none⟩ = some (.int .i64 m6.n) := hB2.cell 2
                        have z3 : w3.cell? ⟨w.heap.size, 3, none⟩ = some (.slice AP m6.parts.length cP) := hB2.cell 3
                        have z4 : w3.cell? ⟨w.heap.size, 4, none⟩ = some (.slice AF m6.flows.length cF) := hB2.cell 4
                        have z5 : w3.cell? ⟨w.heap.size, 5, none⟩ = some (.slice AI m6.items.length cI) := hB2.cell 5
                        have z6 : w3.cell? ⟨w.heap.size, 6, none⟩ = some (.slice AS m6.seqs.length cS) := hB2.cell 6
                        have z7 : w3.cell? ⟨w.heap.size, 7, none⟩ = some (.string m6.pre) := hB2.cell 7
                        have q0 := hB2.frozen 0
                        have q1 := hB2.frozen 1
                        have q2 := hB2.frozen 2
                        have q3 := hB2.frozen 3
                        have q4 := hB2.frozen 4
                        have q5 := hB2.frozen 5
                        have q6 := hB2.frozen 6
                        have q7 := hB2.frozen 7
                        have hgl1 := hB2.lt
                        clear y0 y1 y2 y3 y4 y5 y6 y7 hB2 hC1
                        go_wp2_with fail
                        go_meet
                        case rel => exact HP1.out
                      case rest =>
                        have hP := hcut
                        clear hcut
                        obtain ⟨V7, rfl⟩ : ∃ V, V = wc := ⟨_, rfl⟩
                        have HPV7 := Lib.hid hP
                        clear hP HPV6
                        rw [← Hm7.out] at HPV7
                        go_upto_region 20 with fail
                        go_cut [121] (fun v wx => v = .bool cl ∧ wx = V7)
                        case first =>
                          by_cases c7 : k = 7
                          · have e7 : (kd == 4) = false := by rw [HKD.out]; unfold gkind; rw [if_pos c7]; rfl
                            have e9 : cl = false := by rw [HCL.out]; simp [c7]
                            have HE := Lib.hid e9
                            clear c7 e9
                            go_wp2_with fail
                            go_meet
                            case rel => exact ⟨by rw [HE.out], rfl⟩
                          · have e7 : (kd == 4) = true := by rw [HKD.out]; unfold gkind; rw [if_neg c7]; rfl
                            obtain ⟨q20, hq20⟩ : ∃ q, q = x / 1048576 % 4 := ⟨_, rfl⟩
                            have f20 : bits BinOp.and IntKind.i64 ((x : Int) / 1048576) 3 = (q20 : Int) := (and_low ((x : Int) / 1048576) 2 (by omega)).trans (by rw [hq20]; omega)
                            by_cases c20 : q20 = 0
                            · have e8 : ((q20 : Int) == 0) = true := by rw [c20]; rfl
                              have e9 : cl = true := by rw [HCL.out, ← hq20]; simp [c7, c20]
                              have HE := Lib.hid e9
                              clear c7 c20 hq20 e9
                              go_wp2_with fail
                              go_meet
                              case rel => exact ⟨by rw [HE.out], rfl⟩
                            · have e8 : ((q20 : Int) == 0) = false := by simp; omega
                              have e9 : cl = false := by rw [HCL.out, ← hq20]; simp [c20]
                              have HE := Lib.hid e9
                              clear c7 c20 hq20 e9
                              go_wp2_with fail
                              go_meet
                              case rel => exact ⟨by rw [HE.out], rfl⟩
                        case rest =>
                          obtain ⟨rfl, hwc⟩ := hcut
                          rw [hwc]
                          clear hwc
                          cases cl with
                          | true =>
                            obtain ⟨m9, hm9⟩ : ∃ M, M = gseqF m7 b a := ⟨_, rfl⟩
                            have HEQ : Hid (gpartF d m src = (b, m9)) := Lib.hid (by rw [HEQ0.out, if_pos (of_decide_eq_true HCL.out.symm), hm9])
                            have HM9 := Lib.hid hm9
                            clear hm9
                            obtain ⟨AP, cP, AF, cF, AI, cI, AS, cS, hB, hR, hC, hW⟩ := HPV7.out
                            have y0 : V7.cell? ⟨w.heap.size, 0, none⟩ = some (.slice A m7.p.length cap) := hB.cell 0
                            have y1 : V7.cell? ⟨w.heap.size, 1, none⟩ = some (.int .i64 m7.at_) := hB.cell 1
                            have y2 : V7.cell? ⟨w.heap.size, 2, none⟩ = some (.int .i64 m7.n) := hB.cell 2
                            have y3 : V7.cell? ⟨w.heap.size, 3, none⟩ = some (.slice AP m7.parts.length cP) := hB.cell 3
                            have y4 : V7.cell? ⟨w.heap.size, 4, none⟩ = some (.slice AF m7.flows.length cF) := hB.cell 4
                            have y5 : V7.cell? ⟨w.heap.size, 5, none⟩ = some (.slice AI m7.items.length cI) := hB.cell 5
                            have y6 : V7.cell? ⟨w.heap.size, 6, none⟩ = some (.slice AS m7.seqs.length cS) := hB.cell 6
                            have y7 : V7.cell? ⟨w.heap.size, 7, none⟩ = some (.string m7.pre) := hB.cell 7
                            have HMK0 := Lib.hid (show MkR V7 A cap m7 _ from ⟨AP, cP, AF, cF, AI, cI, AS, cS, rfl, hC⟩)
                            have HBB := Lib.hid hB
                            have HRR := Lib.hid hR
                            have HBL0 := Lib.hid hW
                            have hgl := hB.lt
                            have hgr := hR.lt
                            have hszp := hW.size
                            clear hB hR hC hW
                            have HB0 := Lib.hid (Below.refl V7.heap.size V7)
                            go_wp2_with fail
                            refine (seq_any HMK0.out (HSm7.out.mono (by have := HKK.out; have := HGE.out; omega)) b a).mono ?_
                            rintro e w1 ⟨c1, rfl, hM1, hb1⟩
                            have HB1 := Lib.hid (HB0.out.trans (hb1.mono HB0.out.size))
                            have HBL1 := Lib.hid (HBL0.out.trans (hb1.mono HBL0.out.size))
                            clear hb1
                            rw [← HM9.out] at hM1
                            obtain ⟨AP1, cP1, AF1, cF1, AI1, cI1, AS1, cS1, rfl, hC1⟩ := hM1
                            have hR1 := HRR.out.below HB1.out HRR.out.lt
                            have z0 : w1.cell? ⟨w.heap.size + 1, 0, none⟩ = some (.slice none 0 0) := hR1.cell 0
                            have z1 : w1.cell? ⟨w.heap.size + 1, 1, none⟩ = some (.int .i64 0) := hR1.cell 1
                            have z2 : w1.cell? ⟨w.heap.size + 1, 2, none⟩ = some (.int .i64 0) := hR1.cell 2
                            have z3 : w1.cell? ⟨w.heap.size + 1, 3, none⟩ = some (.slice none 0 0) := hR1.cell 3
                            have z4 : w1.cell? ⟨w.heap.size + 1, 4, none⟩ = some (.slice none 0 0) := hR1.cell 4
                            have z5 : w1.cell? ⟨w.heap.size + 1, 5, none⟩ = some (.slice none 0 0) := hR1.cell 5
                            have z6 : w1.cell? ⟨w.heap.size + 1, 6, none⟩ = some (.slice none 0 0) := hR1.cell 6
                            have z7 : w1.cell? ⟨w.heap.size + 1, 7, none⟩ = some (.string ⟨#[]⟩) := hR1.cell 7
                            have q0 := hR1.frozen 0
                            have q1 := hR1.frozen 1
                            have q2 := hR1.frozen 2
                            have q3 := hR1.frozen 3
                            have q4 := hR1.frozen 4
                            have q5 := hR1.frozen 5
                            have q6 := hR1.frozen 6
                            have q7 := hR1.frozen 7
                            have hl1 := hR1.lt
                            have HR1 := Lib.hid hR1
                            have HE := Lib.hid (MkR.fin (A := A) (cap := cap) (M := m9) HRR.out HBL0.out HB1.out hC1 (.string (b)))
                            clear y0 y1 y2 y3 y4 y5 y6 y7 hC1 hR1
                            go_wp2_with fail
                            have hblk := putAll_blk [.slice A m9.p.length cap, .int .i64 m9.at_, .int .i64 m9.n, .slice AP1 m9.parts.length cP1, .slice AF1 m9.flows.length cF1, .slice AI1 m9.items.length cI1, .slice AS1 m9.seqs.length cS1, .string m9.pre] 0 w1 _ HR1.out rfl
                            have hend : MkEnd w A cap (.string (gpartF d m src).1) (gpartF d m src).2 (.returned (.tuple #[.string (b), .agg #[.slice A m9.p.length cap, .int .i64 m9.at_, .int .i64 m9.n, .slice AP1 m9.parts.length cP1, .slice AF1 m9.flows.length cF1, .slice AI1 m9.items.length cI1, .slice AS1 m9.seqs.length cS1, .string m9.pre]])) (putAll w1 (w.heap.size + 1) 0 [.slice A m9.p.length cap, .int .i64 m9.at_, .int .i64 m9.n, .slice AP1 m9.parts.length cP1, .slice AF1 m9.flows.length cF1, .slice AI1 m9.items.length cI1, .slice AS1 m9.seqs.length cS1, .string m9.pre]) := by
                              rw [HEQ.out]
                              exact HE.out
                            exact bodyPost_ret (ret_part hblk rfl rfl) rfl hend
                          | false =>
                            have HEQ : Hid (gpartF d m src = (b, m7)) := Lib.hid (by rw [HEQ0.out, if_neg (of_decide_eq_false HCL.out.symm)])
                            obtain ⟨AP, cP, AF, cF, AI, cI, AS, cS, hB, hR, hC, hW⟩ := HPV7.out
                            have HB7 := Lib.hid hB
                            have HR7 := Lib.hid hR
                            have HC7 := Lib.hid hC
                            have HW7 := Lib.hid hW
                            clear hB hR hC hW
                            go_upto_region 22 with fail
                            refine wp_region_HT 3 (fun U => Blk U w.heap.size 89 #[.slice A m7.p.length cap, .int .i64 m7.at_, .int .i64 m7.n, .slice AP m7.parts.length cP, .slice AF m7.flows.length cF, .slice AI m7.items.length cI, .slice AS m7.seqs.length cS, .string m7.pre] ∧ Blk U (w.heap.size + 1) 89 #[.slice none 0 0, .int .i64 0, .int .i64 0, .slice none 0 0, .slice none 0 0, .slice none 0 0, .slice none 0 0, .string ⟨#[]⟩]) (by kernel_rfl) (by decide) (⟨Blk.drew HB7.out, Blk.drew HR7.out⟩) (fun hHeld => ?_)
                            refine ht_take 0 (v := ?vr_1) rfl (by kernel_rfl) (fun _ _ _ h => h) (Or.inl ⟨by rfl, ?hr_1⟩) hHeld ?rr_1
                            case hr_1 => ((intro U hSw; have y0 : U.cell? ⟨w.heap.size, 0, none⟩ = some (.slice A m7.p.length cap) := hSw.1.cell 0; have y1 : U.cell? ⟨w.heap.size, 1, none⟩ = some (.int .i64 m7.at_) := hSw.1.cell 1; have y2 : U.cell? ⟨w.heap.size, 2, none⟩ = some (.int .i64 m7.n) := hSw.1.cell 2; have y3 : U.cell? ⟨w.heap.size, 3, none⟩ = some (.slice AP m7.parts.length cP) := hSw.1.cell 3; have y4 : U.cell? ⟨w.heap.size, 4, none⟩ = some (.slice AF m7.flows.length cF) := hSw.1.cell 4; have y5 : U.cell? ⟨w.heap.size, 5, none⟩ = some (.slice AI m7.items.length cI) := hSw.1.cell 5; have y6 : U.cell? ⟨w.heap.size, 6, none⟩ = some (.slice AS m7.seqs.length cS) := hSw.1.cell 6; have y7 : U.cell? ⟨w.heap.size, 7, none⟩ = some (.string m7.pre) := hSw.1.cell 7; go_simp); (try (with_reducible rfl)))
                            try simp only [Act.put, List.setIfInBounds_toArray, List.set_cons_zero, List.set_cons_succ]
                            refine ht_take 1 (v := ?vr_2) rfl (by kernel_rfl) (fun _ _ _ h => h) (Or.inl ⟨by rfl, ?hr_2⟩) hHeld ?rr_2
                            case hr_2 => ((intro U hSw; have y0 : U.cell? ⟨w.heap.size, 0, none⟩ = some (.slice A m7.p.length cap) := hSw.1.cell 0; have y1 : U.cell? ⟨w.heap.size, 1, none⟩ = some (.int .i64 m7.at_) := hSw.1.cell 1; have y2 : U.cell? ⟨w.heap.size, 2, none⟩ = some (.int .i64 m7.n) := hSw.1.cell 2; have y3 : U.cell? ⟨w.heap.size, 3, none⟩ = some (.slice AP m7.parts.length cP) := hSw.1.cell 3; have y4 : U.cell? ⟨w.heap.size, 4, none⟩ = some (.slice AF m7.flows.length cF) := hSw.1.cell 4; have y5 : U.cell? ⟨w.heap.size, 5, none⟩ = some (.slice AI m7.items.length cI) := hSw.1.cell 5; have y6 : U.cell? ⟨w.heap.size, 6, none⟩ = some (.slice AS m7.seqs.length cS) := hSw.1.cell 6; have y7 : U.cell? ⟨w.heap.size, 7, none⟩ = some (.string m7.pre) := hSw.1.cell 7; go_simp); (try (with_reducible rfl)))
                            try simp only [Act.put, List.setIfInBounds_toArray, List.set_cons_zero, List.set_cons_succ]
                            refine ht_take 2 (v := ?vr_3) rfl (by kernel_rfl) (fun _ _ _ h => h) (Or.inl ⟨by rfl, ?hr_3⟩) hHeld ?rr_3
                            case hr_3 => ((intro U hSw; have y0 : U.cell? ⟨w.heap.size, 0, none⟩ = some (.slice A m7.p.length cap) := hSw.1.cell 0; have y1 : U.cell? ⟨w.heap.size, 1, none⟩ = some (.int .i64 m7.at_) := hSw.1.cell 1; have y2 : U.cell? ⟨w.heap.size, 2, none⟩ = some (.int .i64 m7.n) := hSw.1.cell 2; have y3 : U.cell? ⟨w.heap.size, 3, none⟩ = some (.slice AP m7.parts.length cP) := hSw.1.cell 3; have y4 : U.cell? ⟨w.heap.size, 4, none⟩ = some (.slice AF m7.flows.length cF) := hSw.1.cell 4; have y5 : U.cell? ⟨w.heap.size, 5, none⟩ = some (.slice AI m7.items.length cI) := hSw.1.cell 5; have y6 : U.cell? ⟨w.heap.size, 6, none⟩ = some (.slice AS m7.seqs.length cS) := hSw.1.cell 6; have y7 : U.cell? ⟨w.heap.size, 7, none⟩ = some (.string m7.pre) := hSw.1.cell 7; go_simp); (try (with_reducible rfl)))
                            try simp only [Act.put, List.setIfInBounds_toArray, List.set_cons_zero, List.set_cons_succ]
                            refine ht_done (by kernel_rfl) rfl ?_
                            have hR1 := HR7.out
                            have z0 : V7.cell? ⟨w.heap.size + 1, 0, none⟩ = some (.slice none 0 0) := hR1.cell 0
                            have z1 : V7.cell? ⟨w.heap.size + 1, 1, none⟩ = some (.int .i64 0) := hR1.cell 1
                            have z2 : V7.cell? ⟨w.heap.size + 1, 2, none⟩ = some (.int .i64 0) := hR1.cell 2
                            have z3 : V7.cell? ⟨w.heap.size + 1, 3, none⟩ = some (.slice none 0 0) := hR1.cell 3
                            have z4 : V7.cell? ⟨w.heap.size + 1, 4, none⟩ = some (.slice none 0 0) := hR1.cell 4
                            have z5 : V7.cell? ⟨w.heap.size + 1, 5, none⟩ = some (.slice none 0 0) := hR1.cell 5
                            have z6 : V7.cell? ⟨w.heap.size + 1, 6, none⟩ = some (.slice none 0 0) := hR1.cell 6
                            have z7 : V7.cell? ⟨w.heap.size + 1, 7, none⟩ = some (.string ⟨#[]⟩) := hR1.cell 7
                            have q0 := hR1.frozen 0
                            have q1 := hR1.frozen 1
                            have q2 := hR1.frozen 2
                            have q3 := hR1.frozen 3
                            have q4 := hR1.frozen 4
                            have q5 := hR1.frozen 5
                            have q6 := hR1.frozen 6
                            have q7 := hR1.frozen 7
                            have hl1 := hR1.lt
                            have hE0 := MkR.fin (A := A) (cap := cap) (M := m7) HR7.out HW7.out (Below.refl _ _) HC7.out (.string b)
                            have HE : Hid (MkEnd w A cap (.string b) m7 (.returned (.tuple #[.string b, .agg #[.slice A m7.p.length cap, .int .i64 m7.at_, .int .i64 m7.n, .slice AP m7.parts.length cP, .slice AF m7.flows.length cF, .slice AI m7.items.length cI, .slice AS m7.seqs.length cS, .string m7.pre]])) (putAll V7 (w.heap.size + 1) 0 [.slice A m7.p.length cap, .int .i64 m7.at_, .int .i64 m7.n, .slice AP m7.parts.length cP, .slice AF m7.flows.length cF, .slice AI m7.items.length cI, .slice AS m7.seqs.length cS, .string m7.pre]).drew) := Lib.hid (by obtain ⟨c, e, h, hb⟩ := hE0; exact ⟨c, e, h.below (Below.refl _ _).drew, hb.drew⟩)
                            clear hE0
                            clear hR1
                            go_wp2_with fail
                            have hblk := Blk.drew (putAll_blk [.slice A m7.p.length cap, .int .i64 m7.at_, .int .i64 m7.n, .slice AP m7.parts.length cP, .slice AF m7.flows.length cF, .slice AI m7.items.length cI, .slice AS m7.seqs.length cS, .string m7.pre] 0 V7 _ HR7.out rfl)
                            have hend : MkEnd w A cap (.string (gpartF d m src).1) (gpartF d m src).2 (.returned (.tuple #[.string b, .agg #[.slice A m7.p.length cap, .int .i64 m7.at_, .int .i64 m7.n, .slice AP m7.parts.length cP, .slice AF m7.flows.length cF, .slice AI m7.items.length cI, .slice AS m7.seqs.length cS, .string m7.pre]])) (putAll V7 (w.heap.size + 1) 0 [.slice A m7.p.length cap, .int .i64 m7.at_, .int .i64 m7.n, .slice AP m7.parts.length cP, .slice AF m7.flows.length cF, .slice AI m7.items.length cI, .slice AS m7.seqs.length cS, .string m7.pre]).drew := by
                              rw [HEQ.out]
                              exact HE.out
                            exact bodyPost_ret (ret_part hblk rfl rfl) rfl hend
theorem part_any : ∀ d, PartC d
  | 0 => part_step 0 (fun e h => by omega)
  | d + 1 => part_step (d + 1) (fun e h => by
    injection h with h
    subst h
    exact part_any d)
end Go.Proofs.Yteoioboiniealaa
