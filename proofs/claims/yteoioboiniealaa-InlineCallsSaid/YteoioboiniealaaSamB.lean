/- The contract of SameChor, on what is the same. -/
import Derived.Test.YteoioboiniealaaSamA
namespace Go.Proofs.Yteoioboiniealaa
open Go.RowKit

set_option maxRecDepth 100000 in
set_option maxHeartbeats 4000000 in
theorem same_chor {w : World} {x : ChorD} {P1 F1 I1 S1 P2 F2 I2 S2 : Option Addr} {p1 f1 i1 s1 p2 f2 i2 s2 : Nat} (h1 : Comp w x.parts x.flows x.items x.seqs P1 p1 F1 f1 I1 i1 S1 s1) (h2 : Comp w x.parts x.flows x.items x.seqs P2 p2 F2 f2 I2 i2 S2 s2) :
    Calls Try.prog 22 #[.agg #[.string x.id, .slice P1 x.parts.length p1, .slice F1 x.flows.length f1, .slice I1 x.items.length i1, .slice S1 x.seqs.length s1], .agg #[.string x.id, .slice P2 x.parts.length p2, .slice F2 x.flows.length f2, .slice I2 x.items.length i2, .slice S2 x.seqs.length s2]] w fun e w' => e = .returned (.bool true) ∧ Below w.heap.size w w' := by
  have H1 := Lib.hid h1
  have H2 := Lib.hid h2
  obtain ⟨W0, hW0⟩ : ∃ W, W = (w.alloc (.cells #[.string x.id, .slice P1 x.parts.length p1, .slice F1 x.flows.length f1, .slice I1 x.items.length i1, .slice S1 x.seqs.length s1] 28)).alloc (.cells #[.string x.id, .slice P2 x.parts.length p2, .slice F2 x.flows.length f2, .slice I2 x.items.length i2, .slice S2 x.seqs.length s2] 28) := ⟨_, rfl⟩
  obtain ⟨gx, hgx⟩ : ∃ g, g = w.heap.size := ⟨_, rfl⟩
  obtain ⟨gy, hgy⟩ : ∃ g, g = w.heap.size + 1 := ⟨_, rfl⟩
  have hb0 : Below w.heap.size w W0 := by rw [hW0]; exact ((Below.refl _ _).alloc (Nat.le_refl _) _).alloc (by simp) _
  have hx0 : Blk W0 gx 28 #[.string x.id, .slice P1 x.parts.length p1, .slice F1 x.flows.length f1, .slice I1 x.items.length i1, .slice S1 x.seqs.length s1] := by rw [hW0, hgx]; exact (Blk.new _ _ _).alloc _
  have hy0 : Blk W0 gy 28 #[.string x.id, .slice P2 x.parts.length p2, .slice F2 x.flows.length f2, .slice I2 x.items.length i2, .slice S2 x.seqs.length s2] := by
    rw [hW0, hgy]
    have := Blk.new (w.alloc (.cells #[.string x.id, .slice P1 x.parts.length p1, .slice F1 x.flows.length f1, .slice I1 x.items.length i1, .slice S1 x.seqs.length s1] 28)) 28 #[.string x.id, .slice P2 x.parts.length p2, .slice F2 x.flows.length f2, .slice I2 x.items.length i2, .slice S2 x.seqs.length s2]
    simpa using this
  have HKX0 := Lib.hid hx0
  have HKY0 := Lib.hid hy0
  have HB0 := Lib.hid hb0
  have HW0 := Lib.hid hW0.symm
  have HGX := Lib.hid hgx.symm
  have HGY := Lib.hid hgy.symm
  clear h1 h2 hW0 hgx hgy hb0 hx0 hy0
  go_enter Try.func22, Try.ntmps22
  go_upto_region 1 with fail
  rw [HW0.out, HGY.out, HGX.out]
  have ya0 : W0.cell? ⟨gx, 0, none⟩ = some (.string x.id) := HKX0.out.cell 0
  have ya1 : W0.cell? ⟨gx, 1, none⟩ = some (.slice P1 x.parts.length p1) := HKX0.out.cell 1
  have ya2 : W0.cell? ⟨gx, 2, none⟩ = some (.slice F1 x.flows.length f1) := HKX0.out.cell 2
  have ya3 : W0.cell? ⟨gx, 3, none⟩ = some (.slice I1 x.items.length i1) := HKX0.out.cell 3
  have ya4 : W0.cell? ⟨gx, 4, none⟩ = some (.slice S1 x.seqs.length s1) := HKX0.out.cell 4
  have yb0 : W0.cell? ⟨gy, 0, none⟩ = some (.string x.id) := HKY0.out.cell 0
  have yb1 : W0.cell? ⟨gy, 1, none⟩ = some (.slice P2 x.parts.length p2) := HKY0.out.cell 1
  have yb2 : W0.cell? ⟨gy, 2, none⟩ = some (.slice F2 x.flows.length f2) := HKY0.out.cell 2
  have yb3 : W0.cell? ⟨gy, 3, none⟩ = some (.slice I2 x.items.length i2) := HKY0.out.cell 3
  have yb4 : W0.cell? ⟨gy, 4, none⟩ = some (.slice S2 x.seqs.length s2) := HKY0.out.cell 4
  go_wp2_with fail
  refine (same_items _ x.items (Nat.le_refl _) _ _ _ (Rd.below HB0.out _ _ H1.out.items) (Rd.below HB0.out _ _ H2.out.items)).mono ?_
  rintro e W1 ⟨rfl, hb1⟩
  have HKX1 := Lib.hid (HKX0.out.below hb1 HKX0.out.lt)
  have HKY1 := Lib.hid (HKY0.out.below hb1 HKY0.out.lt)
  have HB1 := Lib.hid (HB0.out.trans (hb1.mono HB0.out.size))
  clear ya0 yb0 ya1 yb1 ya2 yb2 ya3 yb3 ya4 yb4
  clear hb1
  have ya0 : W1.cell? ⟨gx, 0, none⟩ = some (.string x.id) := HKX1.out.cell 0
  have ya1 : W1.cell? ⟨gx, 1, none⟩ = some (.slice P1 x.parts.length p1) := HKX1.out.cell 1
  have ya2 : W1.cell? ⟨gx, 2, none⟩ = some (.slice F1 x.flows.length f1) := HKX1.out.cell 2
  have ya3 : W1.cell? ⟨gx, 3, none⟩ = some (.slice I1 x.items.length i1) := HKX1.out.cell 3
  have ya4 : W1.cell? ⟨gx, 4, none⟩ = some (.slice S1 x.seqs.length s1) := HKX1.out.cell 4
  have yb0 : W1.cell? ⟨gy, 0, none⟩ = some (.string x.id) := HKY1.out.cell 0
  have yb1 : W1.cell? ⟨gy, 1, none⟩ = some (.slice P2 x.parts.length p2) := HKY1.out.cell 1
  have yb2 : W1.cell? ⟨gy, 2, none⟩ = some (.slice F2 x.flows.length f2) := HKY1.out.cell 2
  have yb3 : W1.cell? ⟨gy, 3, none⟩ = some (.slice I2 x.items.length i2) := HKY1.out.cell 3
  have yb4 : W1.cell? ⟨gy, 4, none⟩ = some (.slice S2 x.seqs.length s2) := HKY1.out.cell 4
  go_wp2_with fail
  refine (same_seqs (Rd.below HB1.out _ _ H1.out.seqs) (Rd.below HB1.out _ _ H2.out.seqs)).mono ?_
  rintro e W2 ⟨rfl, hb2⟩
  have HKXW2 := Lib.hid (HKX1.out.below hb2 HKX1.out.lt)
  have HKYW2 := Lib.hid (HKY1.out.below hb2 HKY1.out.lt)
  have HBW2 := Lib.hid (HB1.out.trans (hb2.mono HB1.out.size))
  clear ya0 yb0 ya1 yb1 ya2 yb2 ya3 yb3 ya4 yb4
  clear hb2
  have ya0 : W2.cell? ⟨gx, 0, none⟩ = some (.string x.id) := HKXW2.out.cell 0
  have ya1 : W2.cell? ⟨gx, 1, none⟩ = some (.slice P1 x.parts.length p1) := HKXW2.out.cell 1
  have ya2 : W2.cell? ⟨gx, 2, none⟩ = some (.slice F1 x.flows.length f1) := HKXW2.out.cell 2
  have ya3 : W2.cell? ⟨gx, 3, none⟩ = some (.slice I1 x.items.length i1) := HKXW2.out.cell 3
  have ya4 : W2.cell? ⟨gx, 4, none⟩ = some (.slice S1 x.seqs.length s1) := HKXW2.out.cell 4
  have yb0 : W2.cell? ⟨gy, 0, none⟩ = some (.string x.id) := HKYW2.out.cell 0
  have yb1 : W2.cell? ⟨gy, 1, none⟩ = some (.slice P2 x.parts.length p2) := HKYW2.out.cell 1
  have yb2 : W2.cell? ⟨gy, 2, none⟩ = some (.slice F2 x.flows.length f2) := HKYW2.out.cell 2
  have yb3 : W2.cell? ⟨gy, 3, none⟩ = some (.slice I2 x.items.length i2) := HKYW2.out.cell 3
  have yb4 : W2.cell? ⟨gy, 4, none⟩ = some (.slice S2 x.seqs.length s2) := HKYW2.out.cell 4
  go_wp2_with fail
  go_loopw [5] (fun v wy => ∃ j : Nat, j ≤ x.parts.length ∧ v = .int .i64 j ∧ Below W2.heap.size W2 wy) (fun v _ => x.parts.length - (intOf v).toNat)
  case atStart => exact ⟨0, Nat.zero_le _, rfl, Below.refl _ _⟩
  case round =>
    clear ya0 yb0 ya1 yb1 ya2 yb2 ya3 yb3 ya4 yb4
    obtain ⟨j, hj, rfl, hBj⟩ := hrel
    obtain ⟨Y, rfl⟩ : ∃ V, V = wr := ⟨_, rfl⟩
    have HBj := Lib.hid hBj
    have HKXj := Lib.hid (HKXW2.out.below hBj HKXW2.out.lt)
    have HKYj := Lib.hid (HKYW2.out.below hBj HKYW2.out.lt)
    have e1 : Y.cell? ⟨gx, 1, none⟩ = some (.slice P1 x.parts.length p1) := HKXj.out.cell 1
    have e2 : Y.cell? ⟨gy, 1, none⟩ = some (.slice P2 x.parts.length p2) := HKYj.out.cell 1
    have hbw := HBW2.out.trans (hBj.mono HBW2.out.size)
    clear hBj
    by_cases hjl : j < x.parts.length
    · obtain ⟨A1', c1', hv1, hlm1, hcm1', hat1⟩ := rd_at partC_len H1.out.parts
      obtain ⟨A2', c2', hv2, hlm2, hcm2', hat2⟩ := rd_at partC_len H2.out.parts
      injection hv1 with a1 _ a3
      subst a1
      subst a3
      injection hv2 with a1 _ a3
      subst a1
      subst a3
      obtain ⟨q1, vs1, rfl, hq1, _, hvs1, hc1⟩ := hat1 j hjl
      obtain ⟨q2, vs2, rfl, hq2, _, hvs2, hc2⟩ := hat2 j hjl
      generalize x.parts[j] = y at *
      obtain rfl := rd_partC hvs1
      obtain rfl := rd_partC hvs2
      have u0 : Y.cell? ⟨q1, j * 2, none⟩ = some (.string y.id) := (hbw.cell (p := ⟨q1, j * 2, none⟩) hq1).trans (hc1 0 (by omega))
      have t0 : Y.cell? ⟨q2, j * 2, none⟩ = some (.string y.id) := (hbw.cell (p := ⟨q2, j * 2, none⟩) hq2).trans (hc2 0 (by omega))
      have u1 : Y.cell? ⟨q1, j * 2 + 1, none⟩ = some (.string y.name) := (hbw.cell (p := ⟨q1, j * 2 + 1, none⟩) hq1).trans (hc1 1 (by omega))
      have t1 : Y.cell? ⟨q2, j * 2 + 1, none⟩ = some (.string y.name) := (hbw.cell (p := ⟨q2, j * 2 + 1, none⟩) hq2).trans (hc2 1 (by omega))
      have hm1' : x.parts.length ≤ maxLen := by omega
      unfold maxLen at hm1'
      clear hat1 hat2 hvs1 hvs2 hc1 hc2 hbw hcm1' hcm2'
      go_upto_region 6 with fail
      go_quiet (fail)
      go_wp2_with fail
      go_roundw
      case rel => exact ⟨j + 1, by omega, by go_num, below_drewN HBj.out _⟩
      case measure => simp [intOf]; omega
    · have HN := Lib.hid hbw
      have HLX := Lib.hid e1
      clear hbw e1
      have e1 := HLX.out
      obtain ⟨W3, rfl⟩ : ∃ V, V = Y := ⟨_, rfl⟩
      have HKXW3 := HKXj
      have HKYW3 := HKYj
      have HBW3 := HN
      clear e1 e2 HLX
      have ya0 : W3.cell? ⟨gx, 0, none⟩ = some (.string x.id) := HKXW3.out.cell 0
      have ya1 : W3.cell? ⟨gx, 1, none⟩ = some (.slice P1 x.parts.length p1) := HKXW3.out.cell 1
      have ya2 : W3.cell? ⟨gx, 2, none⟩ = some (.slice F1 x.flows.length f1) := HKXW3.out.cell 2
      have ya3 : W3.cell? ⟨gx, 3, none⟩ = some (.slice I1 x.items.length i1) := HKXW3.out.cell 3
      have ya4 : W3.cell? ⟨gx, 4, none⟩ = some (.slice S1 x.seqs.length s1) := HKXW3.out.cell 4
      have yb0 : W3.cell? ⟨gy, 0, none⟩ = some (.string x.id) := HKYW3.out.cell 0
      have yb1 : W3.cell? ⟨gy, 1, none⟩ = some (.slice P2 x.parts.length p2) := HKYW3.out.cell 1
      have yb2 : W3.cell? ⟨gy, 2, none⟩ = some (.slice F2 x.flows.length f2) := HKYW3.out.cell 2
      have yb3 : W3.cell? ⟨gy, 3, none⟩ = some (.slice I2 x.items.length i2) := HKYW3.out.cell 3
      have yb4 : W3.cell? ⟨gy, 4, none⟩ = some (.slice S2 x.seqs.length s2) := HKYW3.out.cell 4
      go_wp2_with fail
      go_loopw [6] (fun v wy => ∃ j : Nat, j ≤ x.flows.length ∧ v = .int .i64 j ∧ Below W3.heap.size W3 wy) (fun v _ => x.flows.length - (intOf v).toNat)
      case atStart => exact ⟨0, Nat.zero_le _, rfl, Below.refl _ _⟩
      case round =>
        clear ya0 yb0 ya1 yb1 ya2 yb2 ya3 yb3 ya4 yb4
        obtain ⟨j, hj, rfl, hBj⟩ := hrel
        obtain ⟨Y, rfl⟩ : ∃ V, V = wr := ⟨_, rfl⟩
        have HBj := Lib.hid hBj
        have HKXj := Lib.hid (HKXW3.out.below hBj HKXW3.out.lt)
        have HKYj := Lib.hid (HKYW3.out.below hBj HKYW3.out.lt)
        have e1 : Y.cell? ⟨gx, 2, none⟩ = some (.slice F1 x.flows.length f1) := HKXj.out.cell 2
        have e2 : Y.cell? ⟨gy, 2, none⟩ = some (.slice F2 x.flows.length f2) := HKYj.out.cell 2
        have hbw := HBW3.out.trans (hBj.mono HBW3.out.size)
        clear hBj
        by_cases hjl : j < x.flows.length
        · obtain ⟨A1', c1', hv1, hlm1, hcm1', hat1⟩ := rd_at flowC_len H1.out.flows
          obtain ⟨A2', c2', hv2, hlm2, hcm2', hat2⟩ := rd_at flowC_len H2.out.flows
          injection hv1 with a1 _ a3
          subst a1
          subst a3
          injection hv2 with a1 _ a3
          subst a1
          subst a3
          obtain ⟨q1, vs1, rfl, hq1, _, hvs1, hc1⟩ := hat1 j hjl
          obtain ⟨q2, vs2, rfl, hq2, _, hvs2, hc2⟩ := hat2 j hjl
          generalize x.flows[j] = y at *
          obtain rfl := rd_flowC hvs1
          obtain rfl := rd_flowC hvs2
          have u0 : Y.cell? ⟨q1, j * 4, none⟩ = some (.string y.id) := (hbw.cell (p := ⟨q1, j * 4, none⟩) hq1).trans (hc1 0 (by omega))
          have t0 : Y.cell? ⟨q2, j * 4, none⟩ = some (.string y.id) := (hbw.cell (p := ⟨q2, j * 4, none⟩) hq2).trans (hc2 0 (by omega))
          have u1 : Y.cell? ⟨q1, j * 4 + 1, none⟩ = some (.string y.src) := (hbw.cell (p := ⟨q1, j * 4 + 1, none⟩) hq1).trans (hc1 1 (by omega))
          have t1 : Y.cell? ⟨q2, j * 4 + 1, none⟩ = some (.string y.src) := (hbw.cell (p := ⟨q2, j * 4 + 1, none⟩) hq2).trans (hc2 1 (by omega))
          have u2 : Y.cell? ⟨q1, j * 4 + 2, none⟩ = some (.string y.dst) := (hbw.cell (p := ⟨q1, j * 4 + 2, none⟩) hq1).trans (hc1 2 (by omega))
          have t2 : Y.cell? ⟨q2, j * 4 + 2, none⟩ = some (.string y.dst) := (hbw.cell (p := ⟨q2, j * 4 + 2, none⟩) hq2).trans (hc2 2 (by omega))
          have u3 : Y.cell? ⟨q1, j * 4 + 3, none⟩ = some (.string y.msg) := (hbw.cell (p := ⟨q1, j * 4 + 3, none⟩) hq1).trans (hc1 3 (by omega))
          have t3 : Y.cell? ⟨q2, j * 4 + 3, none⟩ = some (.string y.msg) := (hbw.cell (p := ⟨q2, j * 4 + 3, none⟩) hq2).trans (hc2 3 (by omega))
          have hm1' : x.flows.length ≤ maxLen := by omega
          unfold maxLen at hm1'
          clear hat1 hat2 hvs1 hvs2 hc1 hc2 hbw hcm1' hcm2'
          go_upto_region 11 with fail
          go_quiet (fail)
          go_wp2_with fail
          go_roundw
          case rel => exact ⟨j + 1, by omega, by go_num, below_drewN HBj.out _⟩
          case measure => simp [intOf]; omega
        · have HN := Lib.hid hbw
          have HLX := Lib.hid e1
          clear hbw e1
          have e1 := HLX.out
          go_wp2_with fail
          go_ret
          exact ⟨rfl, HN.out⟩
end Go.Proofs.Yteoioboiniealaa
