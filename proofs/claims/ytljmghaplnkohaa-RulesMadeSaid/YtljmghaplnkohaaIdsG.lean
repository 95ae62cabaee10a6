/- The contracts of ids.Refs and ids.Check. -/
import Derived.Test.YtljmghaplnkohaaIdsF
import Derived.Test.YtljmghaplnkohaaIdsC
namespace Go.Proofs.Ytljmghaplnkohaa
open Go.RowKit
attribute [local go_sem ↓] Go.wp_at_zero Go.wp_at_succ

def badFlow (d : DocD) (c : ChorD) (f : FlowD) : Bool := decide (partAt c f.src < 0) || decide (partAt c f.dst < 0) || decide (msgAt d f.msg < 0)
def okC (d : DocD) (c : ChorD) : Bool := (!(c.flows.any (badFlow d c))) && (okL d c c.items && okSeqs c.items c.seqs)
def refsF (d : DocD) : Bool := d.chors.all (okC d)
def checkF (d : DocD) : Int := if (addsF [] (idsD d)).1 = 0 then (if refsF d = true then 0 else 6) else (addsF [] (idsD d)).1
set_option maxRecDepth 100000 in
set_option maxHeartbeats 16000000 in
theorem refs_any {w : World} (d : DocD) {A1 B1 : Option Addr} {c1 k1 : Nat} (hm : Rd w (msgsD d.msgs) (.slice A1 d.msgs.length c1)) (hcs : Rd w (chorsD d.chors) (.slice B1 d.chors.length k1)) :
    Calls Try.prog 21 #[.agg #[.slice A1 d.msgs.length c1, .slice B1 d.chors.length k1]] w fun e w' => e = .returned (.bool (refsF d)) ∧ Below w.heap.size w w' := by
  obtain ⟨res, hres⟩ : ∃ b, b = refsF d := ⟨_, rfl⟩
  rw [← hres]
  unfold refsF at hres
  obtain ⟨_, _, _, hcl1, hcl2, _⟩ := rd_at chorC_len hcs
  have hcm : d.chors.length ≤ maxLen := by omega
  unfold maxLen at hcm
  obtain ⟨gd, hgd⟩ : ∃ g, g = w.heap.size := ⟨_, rfl⟩
  obtain ⟨W, hW⟩ : ∃ W, W = w.alloc (.cells #[.slice A1 d.msgs.length c1, .slice B1 d.chors.length k1] 42) := ⟨_, rfl⟩
  have bW : Below w.heap.size w W := by rw [hW]; exact (Below.refl _ _).alloc (Nat.le_refl _) _
  have hbd : Blk W gd 42 #[.slice A1 d.msgs.length c1, .slice B1 d.chors.length k1] := by rw [hW, hgd]; exact Blk.new w _ _
  have d1 : W.cell? ⟨gd, 1, none⟩ = some (.slice B1 d.chors.length k1) := hbd.cell 1
  have HM := Lib.hid (Rd.below bW _ _ hm)
  have HCS := Lib.hid (Rd.below bW _ _ hcs)
  have HBD := Lib.hid hbd
  have HBW := Lib.hid bW
  have HW := Lib.hid hW.symm
  have HGD := Lib.hid hgd.symm
  have HRES := Lib.hid hres.symm
  clear hm hcs hbd bW hW hres hcl1 hcl2
  go_enter Try.func21, Try.ntmps21
  go_upto_region 1 with fail
  rw [HW.out, HGD.out]
  clear hgd HW
  go_wp2_with fail
  clear d1
  go_loopw [10] (fun iv wr => ∃ k : Nat, k ≤ d.chors.length ∧ iv = .int .i64 k ∧ Hid ((d.chors.drop k).all (okC d) = res) ∧ Below W.heap.size W wr) (fun iv _ => d.chors.length - (intOf iv).toNat)
  case atStart => exact ⟨0, Nat.zero_le _, rfl, HRES.out, Below.refl _ _⟩
  case round =>
    obtain ⟨k, hk, rfl, hinv, hB⟩ := hrel
    obtain ⟨V, rfl⟩ : ∃ V, V = wr := ⟨_, rfl⟩
    by_cases hlt : k < d.chors.length
    · obtain ⟨Ax, cx, hvx, _, _, hat⟩ := rd_at chorC_len HCS.out
      injection hvx with e1 _ e3
      subst e1
      subst e3
      obtain ⟨b, vs, rfl, hb, _, hvs, hcell⟩ := hat k hlt
      obtain ⟨c, hx⟩ : ∃ x, x = d.chors[k] := ⟨_, rfl⟩
      rw [← hx] at hvs
      have hi := hinv.out
      rw [List.drop_eq_getElem_cons hlt, List.all_cons, ← hx] at hi
      obtain ⟨vP, vF, vI, vS, rfl, hV⟩ := rd_chorC.1 hvs
      obtain ⟨AP, cP, rfl⟩ := rd_form hV.1
      obtain ⟨AF, cF, rfl⟩ := rd_form hV.2.1
      obtain ⟨AI, cI, rfl⟩ := rd_form hV.2.2.1
      obtain ⟨AS, cS, rfl⟩ := rd_form hV.2.2.2
      have hcomp : Comp W c.parts c.flows c.items c.seqs AP cP AF cF AI cI AS cS := ⟨hV.1, hV.2.1, hV.2.2.1, hV.2.2.2⟩
      have e0 := (hB.cell (p := ⟨b, k * 5, none⟩) hb).trans (show W.cell? ⟨b, k * 5, none⟩ = some (.string c.id) from hcell 0 (by omega))
      have e1 := (hB.cell (p := ⟨b, k * 5 + 1, none⟩) hb).trans (show W.cell? ⟨b, k * 5 + 1, none⟩ = some (.slice AP c.parts.length cP) from hcell 1 (by omega))
      have e2 := (hB.cell (p := ⟨b, k * 5 + 2, none⟩) hb).trans (show W.cell? ⟨b, k * 5 + 2, none⟩ = some (.slice AF c.flows.length cF) from hcell 2 (by omega))
      have e3 := (hB.cell (p := ⟨b, k * 5 + 3, none⟩) hb).trans (show W.cell? ⟨b, k * 5 + 3, none⟩ = some (.slice AI c.items.length cI) from hcell 3 (by omega))
      have e4 := (hB.cell (p := ⟨b, k * 5 + 4, none⟩) hb).trans (show W.cell? ⟨b, k * 5 + 4, none⟩ = some (.slice AS c.seqs.length cS) from hcell 4 (by omega))
      obtain ⟨gc, hgc⟩ : ∃ g, g = V.heap.size := ⟨_, rfl⟩
      obtain ⟨T, hT⟩ : ∃ T, T = V.alloc (.cells #[.string c.id, .slice AP c.parts.length cP, .slice AF c.flows.length cF, .slice AI c.items.length cI, .slice AS c.seqs.length cS] 54) := ⟨_, rfl⟩
      have bT : Below W.heap.size W T := by rw [hT]; exact hB.alloc hB.size _
      have hbc : Blk T gc 54 #[.string c.id, .slice AP c.parts.length cP, .slice AF c.flows.length cF, .slice AI c.items.length cI, .slice AS c.seqs.length cS] := by rw [hT, hgc]; exact Blk.new _ _ _
      obtain ⟨_, _, _, hfl1, hfl2, _⟩ := rd_at flowC_len hV.2.1
      have hfm : c.flows.length ≤ maxLen := by omega
      unfold maxLen at hfm
      have HBC := Lib.hid hbc
      have HBT := Lib.hid bT
      have HC := Lib.hid hcomp
      have HT := Lib.hid hT.symm
      have HGC := Lib.hid hgc.symm
      unfold okC at hi
      obtain ⟨rb, hrb⟩ : ∃ r, r = c.flows.any (badFlow d c) := ⟨_, rfl⟩
      rw [← hrb] at hi
      have HRB := Lib.hid hrb.symm
      have HI2 := Lib.hid hi
      have hkI : (k : Int) < (d.chors.length : Int) := by omega
      have c2 : T.cell? ⟨gc, 2, none⟩ = some (.slice AF c.flows.length cF) := hbc.cell 2
      clear hB hinv hat hvs hcell hx hV hcomp hi hT hgc bT hbc hrb hfl1 hfl2
      go_upto_region 4 with fail
      rw [HT.out, HGC.out]
      clear e0 e1 e2 e3 e4 HT
      go_wp2_with fail
      clear c2
      go_loopw [17] (fun iv wr => ∃ j : Nat, j ≤ c.flows.length ∧ iv = .int .i64 j ∧ Hid ((c.flows.drop j).any (badFlow d c) = rb) ∧ Below T.heap.size T wr) (fun iv _ => c.flows.length - (intOf iv).toNat)
      case atStart => exact ⟨0, Nat.zero_le _, rfl, HRB.out, Below.refl _ _⟩
      case round =>
        obtain ⟨j, hj, rfl, hinv, hB⟩ := hrel
        obtain ⟨V2, rfl⟩ : ∃ V, V = wr := ⟨_, rfl⟩
        by_cases hlt2 : j < c.flows.length
        · obtain ⟨Ay, cy, hvy, _, _, hat⟩ := rd_at flowC_len (Rd.below HBT.out _ _ HC.out.flows)
          injection hvy with e1 _ e3
          subst e1
          subst e3
          obtain ⟨bF, vs, rfl, hbF, _, hvs, hcell⟩ := hat j hlt2
          obtain ⟨f, hf⟩ : ∃ x, x = c.flows[j] := ⟨_, rfl⟩
          rw [← hf] at hvs
          obtain rfl := rd_flowC hvs
          have hi := hinv.out
          rw [List.drop_eq_getElem_cons hlt2, List.any_cons, ← hf] at hi
          unfold badFlow at hi
          have hp1 : partAt c f.src = findFrom (fun y : PartD => eqS y.id f.src) c.parts 0 := rfl
          have hp2 : partAt c f.dst = findFrom (fun y : PartD => eqS y.id f.dst) c.parts 0 := rfl
          have hp3 : msgAt d f.msg = findFrom (fun y : PartD => eqS y.id f.msg) d.msgs 0 := rfl
          obtain ⟨q1, hq1⟩ : ∃ q, q = partAt c f.src := ⟨_, rfl⟩
          obtain ⟨q2, hq2⟩ : ∃ q, q = partAt c f.dst := ⟨_, rfl⟩
          obtain ⟨q3, hq3⟩ : ∃ q, q = msgAt d f.msg := ⟨_, rfl⟩
          rw [← hq1] at hp1 hi
          rw [← hq2] at hp2 hi
          rw [← hq3] at hp3 hi
          have HQ1 := Lib.hid hp1
          have HQ2 := Lib.hid hp2
          have HQ3 := Lib.hid hp3
          have HI3 := Lib.hid hi
          have hbT := hbF
          have e0 := (hB.cell (p := ⟨bF, j * 4, none⟩) hbF).trans (show T.cell? ⟨bF, j * 4, none⟩ = some (.string f.id) from hcell 0 (by omega))
          have e1 := (hB.cell (p := ⟨bF, j * 4 + 1, none⟩) hbF).trans (show T.cell? ⟨bF, j * 4 + 1, none⟩ = some (.string f.src) from hcell 1 (by omega))
          have e2 := (hB.cell (p := ⟨bF, j * 4 + 2, none⟩) hbF).trans (show T.cell? ⟨bF, j * 4 + 2, none⟩ = some (.string f.dst) from hcell 2 (by omega))
          have e3 := (hB.cell (p := ⟨bF, j * 4 + 3, none⟩) hbF).trans (show T.cell? ⟨bF, j * 4 + 3, none⟩ = some (.string f.msg) from hcell 3 (by omega))
          obtain ⟨gf, hgf⟩ : ∃ g, g = V2.heap.size := ⟨_, rfl⟩
          obtain ⟨T2, hT2⟩ : ∃ T, T = V2.alloc (.cells #[.string f.id, .string f.src, .string f.dst, .string f.msg] 62) := ⟨_, rfl⟩
          have bT2 : Below T.heap.size T T2 := by rw [hT2]; exact hB.alloc hB.size _
          have hbf : Blk T2 gf 62 #[.string f.id, .string f.src, .string f.dst, .string f.msg] := by rw [hT2, hgf]; exact Blk.new _ _ _
          have hbW2 := HBT.out.trans (bT2.mono HBT.out.size)
          have HBF := Lib.hid hbf
          have HBT2 := Lib.hid bT2
          have HBW2 := Lib.hid hbW2
          have HT2 := Lib.hid hT2.symm
          have HGF := Lib.hid hgf.symm
          have hjI : (j : Int) < (c.flows.length : Int) := by omega
          clear hB hinv hat hvs hcell hf hi hp1 hp2 hp3 hq1 hq2 hq3 hT2 hgf bT2 hbf hbW2 hbT
          go_upto_region 7 with fail
          rw [HT2.out, HGF.out]
          clear e0 e1 e2 e3 HT2
          have pd0 : T2.cell? ⟨gd, 0, none⟩ = some (.slice A1 d.msgs.length c1) := (HBD.out.below HBW2.out HBD.out.lt).cell 0
          have pd1 : T2.cell? ⟨gd, 1, none⟩ = some (.slice (some ⟨b, 0, none⟩) d.chors.length k1) := (HBD.out.below HBW2.out HBD.out.lt).cell 1
          have pc0 : T2.cell? ⟨gc, 0, none⟩ = some (.string c.id) := (HBC.out.below HBT2.out HBC.out.lt).cell 0
          have pc1 : T2.cell? ⟨gc, 1, none⟩ = some (.slice AP c.parts.length cP) := (HBC.out.below HBT2.out HBC.out.lt).cell 1
          have pc2 : T2.cell? ⟨gc, 2, none⟩ = some (.slice (some ⟨bF, 0, none⟩) c.flows.length cF) := (HBC.out.below HBT2.out HBC.out.lt).cell 2
          have pc3 : T2.cell? ⟨gc, 3, none⟩ = some (.slice AI c.items.length cI) := (HBC.out.below HBT2.out HBC.out.lt).cell 3
          have pc4 : T2.cell? ⟨gc, 4, none⟩ = some (.slice AS c.seqs.length cS) := (HBC.out.below HBT2.out HBC.out.lt).cell 4
          have pf0 : T2.cell? ⟨gf, 0, none⟩ = some (.string f.id) := HBF.out.cell 0
          have pf1 : T2.cell? ⟨gf, 1, none⟩ = some (.string f.src) := HBF.out.cell 1
          have pf2 : T2.cell? ⟨gf, 2, none⟩ = some (.string f.dst) := HBF.out.cell 2
          have pf3 : T2.cell? ⟨gf, 3, none⟩ = some (.string f.msg) := HBF.out.cell 3
          go_wp2_with fail
          refine (idsPart_any f.src (Rd.below HBW2.out _ _ HC.out.parts)).mono ?_
          rintro e w1 ⟨rfl, hb1⟩
          rw [← HQ1.out]
          have HW1 := Lib.hid (HBW2.out.trans (hb1.mono HBW2.out.size))
          have HT1 := Lib.hid (HBT2.out.trans (hb1.mono HBT2.out.size))
          have HF1 := Lib.hid hb1
          clear hb1 pd0 pd1 pc0 pc1 pc2 pc3 pc4 pf0 pf1 pf2 pf3
          by_cases h1 : q1 < 0
          · have hi := HI3.out
            rw [show decide (q1 < 0) = true by simp [h1]] at hi
            simp only [Bool.true_or] at hi
            have HN := Lib.hid hi
            clear hi
            have hres := HI2.out
            have hrb : rb = true := HN.out.symm
            rw [hrb] at hres
            simp only [Bool.not_true, Bool.false_and] at hres
            have hrs : res = false := hres.symm
            clear hres hrb
            subst hrs
            go_wp2_with fail
            go_ret
            exact ⟨rfl, HBW.out.trans (Below.mono (HW1.out) HBW.out.size)⟩
          · have hi := HI3.out
            rw [show decide (q1 < 0) = false by simp; omega] at hi
            simp only [Bool.false_or] at hi
            have HI4 := Lib.hid hi
            clear hi HI3
            have qd0 : w1.cell? ⟨gd, 0, none⟩ = some (.slice A1 d.msgs.length c1) := (HBD.out.below HW1.out HBD.out.lt).cell 0
            have qd1 : w1.cell? ⟨gd, 1, none⟩ = some (.slice (some ⟨b, 0, none⟩) d.chors.length k1) := (HBD.out.below HW1.out HBD.out.lt).cell 1
            have qc0 : w1.cell? ⟨gc, 0, none⟩ = some (.string c.id) := (HBC.out.below HT1.out HBC.out.lt).cell 0
            have qc1 : w1.cell? ⟨gc, 1, none⟩ = some (.slice AP c.parts.length cP) := (HBC.out.below HT1.out HBC.out.lt).cell 1
            have qc2 : w1.cell? ⟨gc, 2, none⟩ = some (.slice (some ⟨bF, 0, none⟩) c.flows.length cF) := (HBC.out.below HT1.out HBC.out.lt).cell 2
            have qc3 : w1.cell? ⟨gc, 3, none⟩ = some (.slice AI c.items.length cI) := (HBC.out.below HT1.out HBC.out.lt).cell 3
            have qc4 : w1.cell? ⟨gc, 4, none⟩ = some (.slice AS c.seqs.length cS) := (HBC.out.below HT1.out HBC.out.lt).cell 4
            have qf0 : w1.cell? ⟨gf, 0, none⟩ = some (.string f.id) := (HBF.out.below HF1.out HBF.out.lt).cell 0
            have qf1 : w1.cell? ⟨gf, 1, none⟩ = some (.string f.src) := (HBF.out.below HF1.out HBF.out.lt).cell 1
            have qf2 : w1.cell? ⟨gf, 2, none⟩ = some (.string f.dst) := (HBF.out.below HF1.out HBF.out.lt).cell 2
            have qf3 : w1.cell? ⟨gf, 3, none⟩ = some (.string f.msg) := (HBF.out.below HF1.out HBF.out.lt).cell 3
            go_wp2_with fail
            refine (idsPart_any f.dst (Rd.below HW1.out _ _ HC.out.parts)).mono ?_
            rintro e w2 ⟨rfl, hb2⟩
            rw [← HQ2.out]
            have HW2 := Lib.hid (HW1.out.trans (hb2.mono HW1.out.size))
            have HT2 := Lib.hid (HT1.out.trans (hb2.mono HT1.out.size))
            have HF2 := Lib.hid (HF1.out.trans (hb2.mono HF1.out.size))
            clear hb2 qd0 qd1 qc0 qc1 qc2 qc3 qc4 qf0 qf1 qf2 qf3
            by_cases h2 : q2 < 0
            · have hi := HI4.out
              rw [show decide (q2 < 0) = true by simp [h2]] at hi
              simp only [Bool.true_or] at hi
              have HN := Lib.hid hi
              clear hi
              have hres := HI2.out
              have hrb : rb = true := HN.out.symm
              rw [hrb] at hres
              simp only [Bool.not_true, Bool.false_and] at hres
              have hrs : res = false := hres.symm
              clear hres hrb
              subst hrs
              go_wp2_with fail
              go_ret
              exact ⟨rfl, HBW.out.trans (Below.mono (HW2.out) HBW.out.size)⟩
            · have hi := HI4.out
              rw [show decide (q2 < 0) = false by simp; omega] at hi
              simp only [Bool.false_or] at hi
              have HI5 := Lib.hid hi
              clear hi HI4
              have rd0 : w2.cell? ⟨gd, 0, none⟩ = some (.slice A1 d.msgs.length c1) := (HBD.out.below HW2.out HBD.out.lt).cell 0
              have rd1 : w2.cell? ⟨gd, 1, none⟩ = some (.slice (some ⟨b, 0, none⟩) d.chors.length k1) := (HBD.out.below HW2.out HBD.out.lt).cell 1
              have rc0 : w2.cell? ⟨gc, 0, none⟩ = some (.string c.id) := (HBC.out.below HT2.out HBC.out.lt).cell 0
              have rc1 : w2.cell? ⟨gc, 1, none⟩ = some (.slice AP c.parts.length cP) := (HBC.out.below HT2.out HBC.out.lt).cell 1
              have rc2 : w2.cell? ⟨gc, 2, none⟩ = some (.slice (some ⟨bF, 0, none⟩) c.flows.length cF) := (HBC.out.below HT2.out HBC.out.lt).cell 2
              have rc3 : w2.cell? ⟨gc, 3, none⟩ = some (.slice AI c.items.length cI) := (HBC.out.below HT2.out HBC.out.lt).cell 3
              have rc4 : w2.cell? ⟨gc, 4, none⟩ = some (.slice AS c.seqs.length cS) := (HBC.out.below HT2.out HBC.out.lt).cell 4
              have rf0 : w2.cell? ⟨gf, 0, none⟩ = some (.string f.id) := (HBF.out.below HF2.out HBF.out.lt).cell 0
              have rf1 : w2.cell? ⟨gf, 1, none⟩ = some (.string f.src) := (HBF.out.below HF2.out HBF.out.lt).cell 1
              have rf2 : w2.cell? ⟨gf, 2, none⟩ = some (.string f.dst) := (HBF.out.below HF2.out HBF.out.lt).cell 2
              have rf3 : w2.cell? ⟨gf, 3, none⟩ = some (.string f.msg) := (HBF.out.below HF2.out HBF.out.lt).cell 3
              go_wp2_with fail
              refine (idsMsg_any f.msg (Rd.below HW2.out _ _ HM.out)).mono ?_
              rintro e w3 ⟨rfl, hb3⟩
              rw [← HQ3.out]
              have HW3 := Lib.hid (HW2.out.trans (hb3.mono HW2.out.size))
              have HT3 := Lib.hid (HT2.out.trans (hb3.mono HT2.out.size))
              clear hb3 rd0 rd1 rc0 rc1 rc2 rc3 rc4 rf0 rf1 rf2 rf3
              by_cases h3 : q3 < 0
              · have hi := HI5.out
                rw [show decide (q3 < 0) = true by simp [h3]] at hi
                simp only [Bool.true_or] at hi
                have HN := Lib.hid hi
                clear hi
                have hres := HI2.out
                have hrb : rb = true := HN.out.symm
                rw [hrb] at hres
                simp only [Bool.not_true, Bool.false_and] at hres
                have hrs : res = false := hres.symm
                clear hres hrb
                subst hrs
                go_wp2_with fail
                go_ret
                exact ⟨rfl, HBW.out.trans (Below.mono (HW3.out) HBW.out.size)⟩
              · have hi := HI5.out
                rw [show decide (q3 < 0) = false by simp; omega] at hi
                simp only [Bool.false_or] at hi
                have HN := Lib.hid hi
                clear hi
                go_wp2_with fail
                go_roundw
                case rel => exact ⟨j + 1, by omega, by go_num, HN, HT3.out⟩
                case measure => simp [intOf]; omega
        · have hi := hinv.out
          rw [List.drop_eq_nil_of_le (by omega), List.any_nil] at hi
          have HB := Lib.hid hB
          have hrb : rb = false := hi.symm
          subst hrb
          have hi2 := HI2.out
          simp only [Bool.not_false, Bool.true_and] at hi2
          have hbW := HBT.out.trans (hB.mono HBT.out.size)
          have hcall := items_any (depL c.items) c.items c.seqs (Nat.le_refl _) V2 _ _ (Rd.below hbW _ _ HM.out) (Rd.below hbW _ _ HCS.out) (HC.out.below hbW) (Rd.below hbW _ _ HC.out.items) (Rd.below hbW _ _ HC.out.seqs)
          obtain ⟨r1, hr1⟩ : ∃ r, r = (okL d c c.items && okSeqs c.items c.seqs) := ⟨_, rfl⟩
          rw [← hr1] at hcall hi2
          have HCALL := Lib.hid hcall
          have HI4 := Lib.hid hi2
          have HBWV := Lib.hid hbW
          have s0 : V2.cell? ⟨gd, 0, none⟩ = some (.slice A1 d.msgs.length c1) := (HBD.out.below hbW HBD.out.lt).cell 0
          have s1 : V2.cell? ⟨gd, 1, none⟩ = some (.slice (some ⟨b, 0, none⟩) d.chors.length k1) := (HBD.out.below hbW HBD.out.lt).cell 1
          have t0 : V2.cell? ⟨gc, 0, none⟩ = some (.string c.id) := (HBC.out.below HB.out HBC.out.lt).cell 0
          have t1 : V2.cell? ⟨gc, 1, none⟩ = some (.slice AP c.parts.length cP) := (HBC.out.below HB.out HBC.out.lt).cell 1
          have t2 : V2.cell? ⟨gc, 2, none⟩ = some (.slice AF c.flows.length cF) := (HBC.out.below HB.out HBC.out.lt).cell 2
          have t3 : V2.cell? ⟨gc, 3, none⟩ = some (.slice AI c.items.length cI) := (HBC.out.below HB.out HBC.out.lt).cell 3
          have t4 : V2.cell? ⟨gc, 4, none⟩ = some (.slice AS c.seqs.length cS) := (HBC.out.below HB.out HBC.out.lt).cell 4
          clear hB hinv hi hi2 hbW hcall hr1
          go_wp2_with fail
          refine HCALL.out.mono ?_
          rintro e w1 ⟨rfl, hb1⟩
          have HW1 := Lib.hid (HBWV.out.trans (hb1.mono HBWV.out.size))
          clear HCALL hb1 s0 s1 t0 t1 t2 t3 t4
          cases r1
          · have hi := HI4.out
            simp only [Bool.false_and] at hi
            have hrs : res = false := hi.symm
            clear hi HI4
            subst hrs
            go_wp2_with fail
            go_ret
            exact ⟨rfl, HBW.out.trans (HW1.out.mono HBW.out.size)⟩
          · have hi := HI4.out
            simp only [Bool.true_and] at hi
            have HN := Lib.hid hi
            clear hi HI4
            go_wp2_with fail
            go_roundw
            case rel => exact ⟨k + 1, by omega, by go_num, HN, HW1.out⟩
            case measure => simp [intOf]; omega
    · have hi := hinv.out
      rw [List.drop_eq_nil_of_le (by omega), List.all_nil] at hi
      have HB := Lib.hid hB
      have hrr : res = true := hi.symm
      subst hrr
      clear hB hi hinv
      go_wp2_with fail
      go_ret
      exact ⟨rfl, HBW.out.trans (HB.out.mono HBW.out.size)⟩
set_option maxRecDepth 100000 in
set_option maxHeartbeats 2000000 in
theorem check_any {w : World} (d : DocD) {A1 B1 : Option Addr} {c1 k1 : Nat} (hm : Rd w (msgsD d.msgs) (.slice A1 d.msgs.length c1)) (hcs : Rd w (chorsD d.chors) (.slice B1 d.chors.length k1)) (hfit : IdsFit [] (idsD d)) :
    Calls Try.prog 20 #[.agg #[.slice A1 d.msgs.length c1, .slice B1 d.chors.length k1]] w fun e w' => e = .returned (.int .i64 (checkF d)) ∧ Below w.heap.size w w' := by
  obtain ⟨res, hres⟩ : ∃ b, b = checkF d := ⟨_, rfl⟩
  rw [← hres]
  unfold checkF at hres
  obtain ⟨gd, hgd⟩ : ∃ g, g = w.heap.size := ⟨_, rfl⟩
  obtain ⟨W, hW⟩ : ∃ W, W = w.alloc (.cells #[.slice A1 d.msgs.length c1, .slice B1 d.chors.length k1] 42) := ⟨_, rfl⟩
  have bW : Below w.heap.size w W := by rw [hW]; exact (Below.refl _ _).alloc (Nat.le_refl _) _
  have hbd : Blk W gd 42 #[.slice A1 d.msgs.length c1, .slice B1 d.chors.length k1] := by rw [hW, hgd]; exact Blk.new w _ _
  have hnew := new_any d (Rd.below bW _ _ hm) (Rd.below bW _ _ hcs) hfit
  have hrf := fun U (k : Below W.heap.size W U) => refs_any d (Rd.below (bW.trans (k.mono bW.size)) _ _ hm) (Rd.below (bW.trans (k.mono bW.size)) _ _ hcs)
  obtain ⟨r, hr⟩ : ∃ r, r = addsF [] (idsD d) := ⟨_, rfl⟩
  obtain ⟨rb, hrb⟩ : ∃ b, b = refsF d := ⟨_, rfl⟩
  rw [← hr] at hres hnew
  rw [← hrb] at hres hrf
  have d0 : W.cell? ⟨gd, 0, none⟩ = some (.slice A1 d.msgs.length c1) := hbd.cell 0
  have d1 : W.cell? ⟨gd, 1, none⟩ = some (.slice B1 d.chors.length k1) := hbd.cell 1
  have HNEW := Lib.hid hnew
  have HRF := Lib.hid hrf
  have HBD := Lib.hid hbd
  have HBW := Lib.hid bW
  have HW := Lib.hid hW.symm
  have HGD := Lib.hid hgd.symm
  have HRES := Lib.hid hres.symm
  clear hm hcs hbd bW hW hres hnew hrf hr hrb hfit
  go_enter Try.func20, Try.ntmps20
  go_upto_region 1 with fail
  rw [HW.out, HGD.out]
  clear hgd HW
  go_wp2_with fail
  refine HNEW.out.mono ?_
  clear HNEW
  rintro e w1 h1
  rcases h1 with ⟨hz, rfl, hb1⟩ | ⟨hz, g, rfl, hT⟩
  · have hzb : (r.1 == 0) = false := by simp [hz]
    have hres := HRES.out
    rw [if_neg hz] at hres
    have HF := Lib.hid (HBW.out.trans (hb1.mono HBW.out.size))
    have HR := Lib.hid hres
    clear hz hres hb1 d0 d1
    go_wp2_with fail
    go_ret
    exact ⟨ret_int HR.out, HF.out⟩
  · have hres := HRES.out
    rw [if_pos hz] at hres
    have hb1 := hT.bel
    have HR := Lib.hid hres
    have d0' : w1.cell? ⟨gd, 0, none⟩ = some (.slice A1 d.msgs.length c1) := (HBD.out.below hb1 HBD.out.lt).cell 0
    have d1' : w1.cell? ⟨gd, 1, none⟩ = some (.slice B1 d.chors.length k1) := (HBD.out.below hb1 HBD.out.lt).cell 1
    have HB1 := Lib.hid hb1
    clear hz hres hb1 d0 d1 hT
    go_wp2_with fail
    refine (HRF.out _ HB1.out).mono ?_
    rintro e w2 ⟨rfl, hb2⟩
    have HF := Lib.hid (HBW.out.trans ((HB1.out.trans (hb2.mono HB1.out.size)).mono HBW.out.size))
    clear hb2 d0' d1'
    cases rb
    · have hres := HR.out
      rw [if_neg (by decide)] at hres
      have HR2 := Lib.hid hres
      clear hres
      go_wp2_with fail
      go_ret
      exact ⟨ret_int HR2.out, HF.out⟩
    · have hres := HR.out
      rw [if_pos rfl] at hres
      have HR2 := Lib.hid hres
      clear hres
      go_wp2_with fail
      go_ret
      exact ⟨ret_int HR2.out, HF.out⟩
end Go.Proofs.Ytljmghaplnkohaa
