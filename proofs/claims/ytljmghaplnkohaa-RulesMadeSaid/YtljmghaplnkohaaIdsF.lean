/- The contract of ids.items. -/
import Derived.Test.YtljmghaplnkohaaIdsE
namespace Go.Proofs.Ytljmghaplnkohaa
open Go.RowKit
attribute [local go_sem ↓] Go.wp_at_zero Go.wp_at_succ

/-- What a level's check says. -/
def ItOk (d : DocD) (c : ChorD) (A1 B1 : Option Addr) (c1 k1 : Nat) (AP : Option Addr) (cP : Nat) (AF : Option Addr) (cF : Nat) (AI : Option Addr) (cI : Nat) (AS : Option Addr) (cS : Nat) (items : List ItemD) (seqs : List SeqD) : Prop := ∀ (w : World) (vI vS : Value),
  Rd w (msgsD d.msgs) (.slice A1 d.msgs.length c1) → Rd w (chorsD d.chors) (.slice B1 d.chors.length k1) → Comp w c.parts c.flows c.items c.seqs AP cP AF cF AI cI AS cS → Rd w (itemsD items) vI → Rd w (seqsD seqs) vS →
  Calls Try.prog 38 #[.agg #[.slice A1 d.msgs.length c1, .slice B1 d.chors.length k1], .agg #[.string c.id, .slice AP c.parts.length cP, .slice AF c.flows.length cF, .slice AI c.items.length cI, .slice AS c.seqs.length cS], vI, vS] w fun e w' => e = .returned (.bool (okL d c items && okSeqs items seqs)) ∧ Below w.heap.size w w'
theorem findFrom_inI {α : Type} (p : α → Bool) : ∀ (l : List α) (j : Nat), ¬ findFrom p l j < 0 → ∃ i, i < l.length ∧ findFrom p l j = ((j + i : Nat) : Int)
  | [], j, h => by unfold findFrom at h; omega
  | a :: l, j, h => by
    unfold findFrom at h ⊢
    by_cases hp : p a = true
    · rw [if_pos hp]; exact ⟨0, by simp, by simp⟩
    · rw [if_neg hp] at h ⊢
      obtain ⟨i, hi, he⟩ := findFrom_inI p l (j + 1) h
      exact ⟨i + 1, by simp; omega, by rw [he]; congr 1; omega⟩
theorem okL_drop (d : DocD) (c : ChorD) {l : List ItemD} {k : Nat} (h : k < l.length) : okL d c (l.drop k) = (okI d c l[k] && okL d c (l.drop (k + 1))) := by
  rw [List.drop_eq_getElem_cons h, okL]
set_option maxRecDepth 100000 in
set_option maxHeartbeats 16000000 in
theorem items_step {d : DocD} {c : ChorD} {A1 B1 : Option Addr} {c1 k1 : Nat} {AP : Option Addr} {cP : Nat} {AF : Option Addr} {cF : Nat} {AI : Option Addr} {cI : Nat} {AS : Option Addr} {cS : Nat} (items : List ItemD) (seqs : List SeqD) (ih : ∀ x ∈ items, ItOk d c A1 B1 c1 k1 AP cP AF cF AI cI AS cS x.items x.seqs) : ItOk d c A1 B1 c1 k1 AP cP AF cF AI cI AS cS items seqs := by
  intro w vI vS hm hcs hc hI hS
  obtain ⟨AX, cX, rfl, hIl, hIc, _⟩ := rd_at itemC_len hI
  have hlm : items.length ≤ maxLen := by omega
  unfold maxLen at hlm
  obtain ⟨AQ, cQ, rfl⟩ := rd_form hS
  obtain ⟨gd, hgd⟩ : ∃ g, g = w.heap.size := ⟨_, rfl⟩
  obtain ⟨W, hW⟩ : ∃ W, W = ((w.alloc (.cells #[.slice A1 d.msgs.length c1, .slice B1 d.chors.length k1] 42)).alloc (.cells #[.string c.id, .slice AP c.parts.length cP, .slice AF c.flows.length cF, .slice AI c.items.length cI, .slice AS c.seqs.length cS] 54)).alloc (.cells #[.slice AX items.length cX] 24) := ⟨_, rfl⟩
  have bW : Below w.heap.size w W := by rw [hW]; exact (((Below.refl _ _).alloc (Nat.le_refl _) _).alloc (by simp) _).alloc (by simp; omega) _
  have z1 : (w.alloc (.cells #[.slice A1 d.msgs.length c1, .slice B1 d.chors.length k1] 42)).heap.size = w.heap.size + 1 := by simp
  have z2 : ((w.alloc (.cells #[.slice A1 d.msgs.length c1, .slice B1 d.chors.length k1] 42)).alloc (.cells #[.string c.id, .slice AP c.parts.length cP, .slice AF c.flows.length cF, .slice AI c.items.length cI, .slice AS c.seqs.length cS] 54)).heap.size = w.heap.size + 1 + 1 := by simp
  have hbd : Blk W gd 42 #[.slice A1 d.msgs.length c1, .slice B1 d.chors.length k1] := by rw [hW, hgd]; exact ((Blk.new w _ _).alloc _).alloc _
  have hbc : Blk W (gd + 1) 54 #[.string c.id, .slice AP c.parts.length cP, .slice AF c.flows.length cF, .slice AI c.items.length cI, .slice AS c.seqs.length cS] := by
    have := (Blk.new (w.alloc (.cells #[.slice A1 d.msgs.length c1, .slice B1 d.chors.length k1] 42)) 54 #[.string c.id, .slice AP c.parts.length cP, .slice AF c.flows.length cF, .slice AI c.items.length cI, .slice AS c.seqs.length cS]).alloc (.cells #[.slice AX items.length cX] 24)
    rw [z1] at this
    rw [hW, hgd]; exact this
  have hbl : Blk W (gd + 1 + 1) 24 #[.slice AX items.length cX] := by
    have := Blk.new ((w.alloc (.cells #[.slice A1 d.msgs.length c1, .slice B1 d.chors.length k1] 42)).alloc (.cells #[.string c.id, .slice AP c.parts.length cP, .slice AF c.flows.length cF, .slice AI c.items.length cI, .slice AS c.seqs.length cS] 54)) 24 #[.slice AX items.length cX]
    rw [z2] at this
    rw [hW, hgd]; exact this
  have l0 : W.cell? ⟨gd + 1 + 1, 0, none⟩ = some (.slice AX items.length cX) := hbl.cell 0
  have HM := Lib.hid (Rd.below bW _ _ hm)
  have HCS := Lib.hid (Rd.below bW _ _ hcs)
  have HC := Lib.hid (hc.below bW)
  have HI := Lib.hid (Rd.below bW _ _ hI)
  have HS := Lib.hid (Rd.below bW _ _ hS)
  have HBD := Lib.hid hbd
  have HBC := Lib.hid hbc
  have HBL := Lib.hid hbl
  have HBW := Lib.hid bW
  have HW := Lib.hid hW.symm
  have HGD := Lib.hid hgd.symm
  have HIH := Lib.hid ih
  obtain ⟨res, hres⟩ : ∃ b, b = okL d c items := ⟨_, rfl⟩
  have HRES := Lib.hid hres.symm
  obtain ⟨sqb, hsqb⟩ : ∃ b, b = okSeqs items seqs := ⟨_, rfl⟩
  have HSQB := Lib.hid hsqb
  rw [← hsqb]
  clear hm hcs hc hI hS hbd hbc hbl bW hW z1 z2 ih hIl hIc hres hsqb
  rw [HRES.out]
  go_enter Try.func38, Try.ntmps38
  go_upto_region 1 with fail
  rw [HW.out, HGD.out]
  clear hgd HW
  go_wp2_with fail
  clear l0
  go_loopw [15] (fun iv wr => ∃ k : Nat, k ≤ items.length ∧ iv = .int .i64 k ∧ Hid (okL d c (items.drop k) = res) ∧ Below W.heap.size W wr) (fun iv _ => items.length - (intOf iv).toNat)
  case atStart => exact ⟨0, Nat.zero_le _, rfl, HRES.out, Below.refl _ _⟩
  case round =>
    obtain ⟨k, hk, rfl, hinv, hB⟩ := hrel
    obtain ⟨V, rfl⟩ : ∃ V, V = wr := ⟨_, rfl⟩
    by_cases hlt : k < items.length
    · obtain ⟨Ax, cx, hvx, _, _, hat⟩ := rd_at itemC_len HI.out
      injection hvx with e1 _ e3
      subst e1
      subst e3
      obtain ⟨b, vs, rfl, hb, _, hvs, hcell⟩ := hat k hlt
      obtain ⟨x, hx⟩ : ∃ x, x = items[k] := ⟨_, rfl⟩
      rw [← hx] at hvs
      obtain ⟨v3, v4, v7, v8, v9, rfl, h3, h4, h7, h8, h9⟩ := rd_itemC.1 hvs
      obtain ⟨A3, c3, rfl⟩ := rd_form h3
      obtain ⟨A4, c4, rfl⟩ := rd_form h4
      obtain ⟨A7, c7, rfl⟩ := rd_form h7
      obtain ⟨A8, c8, rfl⟩ := rd_form h8
      obtain ⟨A9, c9, rfl⟩ := rd_form h9
      have hi := hinv.out
      rw [okL_drop d c hlt, ← hx, okI_eq] at hi
      have e0 := (hB.cell (p := ⟨b, k * 10, none⟩) hb).trans (show W.cell? ⟨b, k * 10, none⟩ = some (.int .i64 x.kind) from hcell 0 (by omega))
      have e1 := (hB.cell (p := ⟨b, k * 10 + 1, none⟩) hb).trans (show W.cell? ⟨b, k * 10 + 1, none⟩ = some (.string x.id) from hcell 1 (by omega))
      have e2 := (hB.cell (p := ⟨b, k * 10 + 2, none⟩) hb).trans (show W.cell? ⟨b, k * 10 + 2, none⟩ = some (.string x.first) from hcell 2 (by omega))
      have e3 := (hB.cell (p := ⟨b, k * 10 + 3, none⟩) hb).trans (show W.cell? ⟨b, k * 10 + 3, none⟩ = some (.slice A3 x.parts.length c3) from hcell 3 (by omega))
      have e4 := (hB.cell (p := ⟨b, k * 10 + 4, none⟩) hb).trans (show W.cell? ⟨b, k * 10 + 4, none⟩ = some (.slice A4 x.flows.length c4) from hcell 4 (by omega))
      have e5 := (hB.cell (p := ⟨b, k * 10 + 5, none⟩) hb).trans (show W.cell? ⟨b, k * 10 + 5, none⟩ = some (.bool x.loop) from hcell 5 (by omega))
      have e6 := (hB.cell (p := ⟨b, k * 10 + 6, none⟩) hb).trans (show W.cell? ⟨b, k * 10 + 6, none⟩ = some (.string x.called) from hcell 6 (by omega))
      have e7 := (hB.cell (p := ⟨b, k * 10 + 7, none⟩) hb).trans (show W.cell? ⟨b, k * 10 + 7, none⟩ = some (.slice A7 x.maps.length c7) from hcell 7 (by omega))
      have e8 := (hB.cell (p := ⟨b, k * 10 + 8, none⟩) hb).trans (show W.cell? ⟨b, k * 10 + 8, none⟩ = some (.slice A8 x.items.length c8) from hcell 8 (by omega))
      have e9 := (hB.cell (p := ⟨b, k * 10 + 9, none⟩) hb).trans (show W.cell? ⟨b, k * 10 + 9, none⟩ = some (.slice A9 x.seqs.length c9) from hcell 9 (by omega))
      obtain ⟨gx, hgx⟩ : ∃ g, g = V.heap.size := ⟨_, rfl⟩
      obtain ⟨T, hT⟩ : ∃ T, T = V.alloc (.cells #[.int .i64 x.kind, .string x.id, .string x.first, .slice A3 x.parts.length c3, .slice A4 x.flows.length c4, .bool x.loop, .string x.called, .slice A7 x.maps.length c7, .slice A8 x.items.length c8, .slice A9 x.seqs.length c9] 30) := ⟨_, rfl⟩
      have bT : Below W.heap.size W T := by rw [hT]; exact hB.alloc hB.size _
      have hbx : Blk T gx 30 #[.int .i64 x.kind, .string x.id, .string x.first, .slice A3 x.parts.length c3, .slice A4 x.flows.length c4, .bool x.loop, .string x.called, .slice A7 x.maps.length c7, .slice A8 x.items.length c8, .slice A9 x.seqs.length c9] := by rw [hT, hgx]; exact Blk.new _ _ _
      have HBX := Lib.hid hbx
      have HBT := Lib.hid bT
      have HX := Lib.hid (show ItemV W x (.slice A3 x.parts.length c3) (.slice A4 x.flows.length c4) (.slice A7 x.maps.length c7) (.slice A8 x.items.length c8) (.slice A9 x.seqs.length c9) from ⟨h3, h4, h7, h8, h9⟩)
      have HIX := Lib.hid (HIH.out x (by rw [hx]; exact List.getElem_mem hlt))
      have HT := Lib.hid hT.symm
      have HGX := Lib.hid hgx.symm
      have HI2 := Lib.hid hi
      have hkI : (k : Int) < (items.length : Int) := by omega
      clear hB hinv hat hvs hcell hx h3 h4 h7 h8 h9 hi hT hgx bT hbx
      go_upto_region 4 with fail
      rw [HT.out, HGX.out]
      clear e0 e1 e2 e3 e4 e5 e6 e7 e8 e9 HT
      have x0 : T.cell? ⟨gx, 0, none⟩ = some (.int .i64 x.kind) := HBX.out.cell 0
      have x1 : T.cell? ⟨gx, 1, none⟩ = some (.string x.id) := HBX.out.cell 1
      have x2 : T.cell? ⟨gx, 2, none⟩ = some (.string x.first) := HBX.out.cell 2
      have x3 : T.cell? ⟨gx, 3, none⟩ = some (.slice A3 x.parts.length c3) := HBX.out.cell 3
      have x4 : T.cell? ⟨gx, 4, none⟩ = some (.slice A4 x.flows.length c4) := HBX.out.cell 4
      have x5 : T.cell? ⟨gx, 5, none⟩ = some (.bool x.loop) := HBX.out.cell 5
      have x6 : T.cell? ⟨gx, 6, none⟩ = some (.string x.called) := HBX.out.cell 6
      have x7 : T.cell? ⟨gx, 7, none⟩ = some (.slice A7 x.maps.length c7) := HBX.out.cell 7
      have x8 : T.cell? ⟨gx, 8, none⟩ = some (.slice A8 x.items.length c8) := HBX.out.cell 8
      have x9 : T.cell? ⟨gx, 9, none⟩ = some (.slice A9 x.seqs.length c9) := HBX.out.cell 9
      have hgxT := HBX.out.lt
      by_cases k3 : x.kind = 3
      · have hb3 : (x.kind == 3) = true := by simp [k3]
        have hi := HI2.out
        rw [if_pos k3] at hi
        clear k3
        unfold okTask at hi
        have hcall := idsPart_any (w := T) (vId := .string c.id) (vF := .slice AF c.flows.length cF) (vI := .slice AI c.items.length cI) (vS := .slice AS c.seqs.length cS) x.first (Rd.below HBT.out _ _ HC.out.parts)
        have hp : partAt c x.first = findFrom (fun y : PartD => eqS y.id x.first) c.parts 0 := rfl
        obtain ⟨q, hq⟩ : ∃ q, q = partAt c x.first := ⟨_, rfl⟩
        rw [← hq] at hp hi
        rw [← hp] at hcall
        have HCALL := Lib.hid hcall
        have HI3 := Lib.hid hi
        have y0 : T.cell? ⟨(gd + 1), 0, none⟩ = some (.string c.id) := (HBC.out.below HBT.out HBC.out.lt).cell 0
        have y1 : T.cell? ⟨(gd + 1), 1, none⟩ = some (.slice AP c.parts.length cP) := (HBC.out.below HBT.out HBC.out.lt).cell 1
        have y2 : T.cell? ⟨(gd + 1), 2, none⟩ = some (.slice AF c.flows.length cF) := (HBC.out.below HBT.out HBC.out.lt).cell 2
        have y3 : T.cell? ⟨(gd + 1), 3, none⟩ = some (.slice AI c.items.length cI) := (HBC.out.below HBT.out HBC.out.lt).cell 3
        have y4 : T.cell? ⟨(gd + 1), 4, none⟩ = some (.slice AS c.seqs.length cS) := (HBC.out.below HBT.out HBC.out.lt).cell 4
        clear hcall hi hp hq HI2 HIX
        go_wp2_with fail
        refine HCALL.out.mono ?_
        rintro e w1 ⟨rfl, hb1⟩
        have hbx1 := HBX.out.below hb1 HBX.out.lt
        have hB1 := HBT.out.trans (hb1.mono HBT.out.size)
        have x3' : w1.cell? ⟨gx, 3, none⟩ = some (.slice A3 x.parts.length c3) := hbx1.cell 3
        have HBX1 := Lib.hid hbx1
        have HB1 := Lib.hid hB1
        clear HCALL x0 x1 x2 x3 x4 x5 x6 x7 x8 x9 y0 y1 y2 y3 y4 hbx1 hb1 hB1 HBX
        by_cases hq0 : q < 0
        · have hi := HI3.out
          rw [show decide (0 ≤ q) = false by simp; omega] at hi
          simp only [Bool.false_and] at hi
          have HN := Lib.hid hi
          clear hi
          go_wp2_with fail
          go_ret
          exact ⟨ret_bool (by rw [← HN.out]; rfl), HBW.out.trans (Below.mono (HB1.out) HBW.out.size)⟩
        · have hi := HI3.out
          rw [show decide (0 ≤ q) = true by simp; omega] at hi
          simp only [Bool.true_and] at hi
          have hcl : ∀ p ∈ x.parts, ∀ U, Below w1.heap.size w1 U → Calls Try.prog 61 #[.string p, .pointer (some ⟨gd + 1, 0, none⟩)] U fun e w' => e = .returned (.bool (decide (partAt c p < 0))) ∧ Below U.heap.size U w' := fun p _ U hU =>
            items1_any (HC.out.below (HB1.out.trans (hU.mono HB1.out.size))) (HBC.out.below (HB1.out.trans (hU.mono HB1.out.size)) HBC.out.lt) p
          have hcall := anyS1_any (fun p => decide (partAt c p < 0)) hcl (Rd.below HB1.out _ _ HX.out.1)
          obtain ⟨r1, hr1⟩ : ∃ r, r = x.parts.any (fun p => decide (partAt c p < 0)) := ⟨_, rfl⟩
          rw [← hr1] at hcall hi
          have HCALL := Lib.hid hcall
          have HI4 := Lib.hid hi
          clear hcl hcall hi hr1 HI3
          go_wp2_with fail
          refine HCALL.out.mono ?_
          rintro e w2 ⟨rfl, hb2⟩
          have hbx2 := HBX1.out.below hb2 HBX1.out.lt
          have hB2 := HB1.out.trans (hb2.mono HB1.out.size)
          have x4' : w2.cell? ⟨gx, 4, none⟩ = some (.slice A4 x.flows.length c4) := hbx2.cell 4
          have HB2 := Lib.hid hB2
          clear HCALL hbx2 hb2 hB2 x3' HBX1
          cases r1
          · have hi := HI4.out
            simp only [Bool.not_false, Bool.true_and] at hi
            have hcl : ∀ p ∈ x.flows, ∀ U, Below w2.heap.size w2 U → Calls Try.prog 62 #[.string p, .pointer (some ⟨gd + 1, 0, none⟩)] U fun e w' => e = .returned (.bool (decide (flowAt c p < 0))) ∧ Below U.heap.size U w' := fun p _ U hU =>
              items2_any (HC.out.below (HB2.out.trans (hU.mono HB2.out.size))) (HBC.out.below (HB2.out.trans (hU.mono HB2.out.size)) HBC.out.lt) p
            have hcall := anyS2_any (fun p => decide (flowAt c p < 0)) hcl (Rd.below HB2.out _ _ HX.out.2.1)
            obtain ⟨r2, hr2⟩ : ∃ r, r = x.flows.any (fun p => decide (flowAt c p < 0)) := ⟨_, rfl⟩
            rw [← hr2] at hcall hi
            have HCALL := Lib.hid hcall
            have HI5 := Lib.hid hi
            clear hcl hcall hi hr2 HI4
            go_wp2_with fail
            refine HCALL.out.mono ?_
            rintro e w3 ⟨rfl, hb3⟩
            have HB3 := Lib.hid (HB2.out.trans (hb3.mono HB2.out.size))
            clear HCALL hb3 x4'
            cases r2
            · have hi := HI5.out
              simp only [Bool.not_false, Bool.true_and] at hi
              have HN := Lib.hid hi
              clear hi
              go_wp2_with fail
              go_roundw
              case rel => exact ⟨k + 1, by omega, by go_num, HN, HB3.out⟩
              case measure => simp [intOf]; omega
            · have hi := HI5.out
              simp only [Bool.not_true, Bool.false_and] at hi
              have HN := Lib.hid hi
              clear hi
              go_wp2_with fail
              go_ret
              exact ⟨ret_bool (by rw [← HN.out]; rfl), HBW.out.trans (Below.mono (HB3.out) HBW.out.size)⟩
          · have hi := HI4.out
            simp only [Bool.not_true, Bool.false_and] at hi
            have HN := Lib.hid hi
            clear hi
            go_wp2_with fail
            go_ret
            exact ⟨ret_bool (by rw [← HN.out]; rfl), HBW.out.trans (Below.mono (HB2.out) HBW.out.size)⟩
      · have hb3 : (x.kind == 3) = false := by simp [k3]
        by_cases k8 : x.kind = 8
        · have hb8 : (x.kind == 8) = true := by simp [k8]
          have hi := HI2.out
          rw [if_neg k3, if_pos k8] at hi
          clear k3 k8
          unfold okCall at hi
          have hcall := idsChor_any (w := T) (vM := .slice A1 d.msgs.length c1) x.called (Rd.below HBT.out _ _ HCS.out)
          have hp : chorAt d x.called = findFrom (fun y : ChorD => eqS y.id x.called) d.chors 0 := rfl
          have hin := findFrom_inI (fun y : ChorD => eqS y.id x.called) d.chors 0
          rw [← hp] at hin
          obtain ⟨q, hq⟩ : ∃ q, q = chorAt d x.called := ⟨_, rfl⟩
          rw [← hq] at hp hi hin
          rw [← hp] at hcall
          have HCALL := Lib.hid hcall
          have HI3 := Lib.hid hi
          have HIN := Lib.hid hin
          have y0 : T.cell? ⟨gd, 0, none⟩ = some (.slice A1 d.msgs.length c1) := (HBD.out.below HBT.out HBD.out.lt).cell 0
          have y1 : T.cell? ⟨gd, 1, none⟩ = some (.slice B1 d.chors.length k1) := (HBD.out.below HBT.out HBD.out.lt).cell 1
          clear hcall hi hp hq hin HI2 HIX
          go_wp2_with fail
          refine HCALL.out.mono ?_
          rintro e w1 ⟨rfl, hb1⟩
          obtain ⟨T2, hT2⟩ : ∃ T2, T2 = w1.alloc (.cells #[.int .i64 q] 3) := ⟨_, rfl⟩
          obtain ⟨gk, hgk⟩ : ∃ g, g = w1.heap.size := ⟨_, rfl⟩
          have bT2 : Below w1.heap.size w1 T2 := by rw [hT2]; exact (Below.refl _ _).alloc (Nat.le_refl _) _
          have hbk : Blk T2 gk 3 #[.int .i64 q] := by rw [hT2, hgk]; exact Blk.new _ _ _
          have hb12 := hb1.trans (bT2.mono hb1.size)
          have hbx1 := HBX.out.below hb12 HBX.out.lt
          have hB1 := HBT.out.trans (hb12.mono HBT.out.size)
          have x7' : T2.cell? ⟨gx, 7, none⟩ = some (.slice A7 x.maps.length c7) := hbx1.cell 7
          have xk : T2.cell? ⟨gk, 0, none⟩ = some (.int .i64 q) := hbk.cell 0
          have HBK := Lib.hid hbk
          have HB1 := Lib.hid hB1
          have HT2 := Lib.hid hT2.symm
          have HGK := Lib.hid hgk.symm
          clear HCALL x0 x1 x2 x3 x4 x5 x6 x7 x8 x9 y0 y1 hbx1 hb1 hB1 HBX hT2 hgk bT2 hbk hb12
          go_upto_region 10 with fail
          rw [HT2.out, HGK.out]
          clear HT2
          by_cases hq0 : q < 0
          · have hi := HI3.out
            rw [show decide (0 ≤ q) = false by simp; omega] at hi
            simp only [Bool.false_and] at hi
            have HN := Lib.hid hi
            clear hi
            go_wp2_with fail
            go_ret
            exact ⟨ret_bool (by rw [← HN.out]; rfl), HBW.out.trans (Below.mono (HB1.out) HBW.out.size)⟩
          · have hi := HI3.out
            rw [show decide (0 ≤ q) = true by simp; omega] at hi
            simp only [Bool.true_and] at hi
            obtain ⟨j, hj, hjq⟩ := HIN.out (by omega)
            rw [Nat.zero_add] at hjq
            rw [show q.toNat = j by omega] at hi
            have hcl : ∀ p ∈ x.maps, ∀ U, Below T2.heap.size T2 U → Calls Try.prog 64 #[.agg #[.string p.inner, .string p.outer], .pointer (some ⟨gd, 0, none⟩), .pointer (some ⟨gk, 0, none⟩), .pointer (some ⟨gd + 1, 0, none⟩)] U fun e w' => e = .returned (.bool (badMap (d.chors.getD j noChor) c p)) ∧ Below U.heap.size U w' := fun p _ U hU => by
              have hU1 := HB1.out.trans (hU.mono HB1.out.size)
              have hk0 := (HBK.out.below hU HBK.out.lt).cell 0
              exact items3_any (HC.out.below hU1) (Rd.below hU1 _ _ HCS.out) (HBD.out.below hU1 HBD.out.lt) (by rw [hk0, ← hjq]; rfl) (HBK.out.below hU HBK.out.lt).lt (HBC.out.below hU1 HBC.out.lt) hj p
            have hcall := anyM3_any (badMap (d.chors.getD j noChor) c) hcl (Rd.below HB1.out _ _ HX.out.2.2.1)
            obtain ⟨r1, hr1⟩ : ∃ r, r = x.maps.any (badMap (d.chors.getD j noChor) c) := ⟨_, rfl⟩
            rw [← hr1] at hcall hi
            have HCALL := Lib.hid hcall
            have HI4 := Lib.hid hi
            clear hcl hcall hi hr1 HI3 hjq
            go_wp2_with fail
            refine HCALL.out.mono ?_
            rintro e w2 ⟨rfl, hb2⟩
            have HB2 := Lib.hid (HB1.out.trans (hb2.mono HB1.out.size))
            clear HCALL hb2 x7' xk
            cases r1
            · have hi := HI4.out
              simp only [Bool.not_false, Bool.true_and] at hi
              have HN := Lib.hid hi
              clear hi
              go_wp2_with fail
              go_roundw
              case rel => exact ⟨k + 1, by omega, by go_num, HN, HB2.out⟩
              case measure => simp [intOf]; omega
            · have hi := HI4.out
              simp only [Bool.not_true, Bool.false_and] at hi
              have HN := Lib.hid hi
              clear hi
              go_wp2_with fail
              go_ret
              exact ⟨ret_bool (by rw [← HN.out]; rfl), HBW.out.trans (Below.mono (HB2.out) HBW.out.size)⟩
        · have hb8 : (x.kind == 8) = false := by simp [k8]
          by_cases k7 : x.kind = 7
          · have hb7 : (x.kind == 7) = true := by simp [k7]
            have hi := HI2.out
            rw [if_neg k3, if_neg k8, if_pos k7] at hi
            clear k3 k8 k7
            have hcall := HIX.out T _ _ (Rd.below HBT.out _ _ HM.out) (Rd.below HBT.out _ _ HCS.out) (HC.out.below HBT.out) (Rd.below HBT.out _ _ HX.out.2.2.2.1) (Rd.below HBT.out _ _ HX.out.2.2.2.2)
            obtain ⟨r1, hr1⟩ : ∃ r, r = (okL d c x.items && okSeqs x.items x.seqs) := ⟨_, rfl⟩
            rw [← hr1] at hcall hi
            have HCALL := Lib.hid hcall
            have HI3 := Lib.hid hi
            have y0 : T.cell? ⟨(gd + 1), 0, none⟩ = some (.string c.id) := (HBC.out.below HBT.out HBC.out.lt).cell 0
            have y1 : T.cell? ⟨(gd + 1), 1, none⟩ = some (.slice AP c.parts.length cP) := (HBC.out.below HBT.out HBC.out.lt).cell 1
            have y2 : T.cell? ⟨(gd + 1), 2, none⟩ = some (.slice AF c.flows.length cF) := (HBC.out.below HBT.out HBC.out.lt).cell 2
            have y3 : T.cell? ⟨(gd + 1), 3, none⟩ = some (.slice AI c.items.length cI) := (HBC.out.below HBT.out HBC.out.lt).cell 3
            have y4 : T.cell? ⟨(gd + 1), 4, none⟩ = some (.slice AS c.seqs.length cS) := (HBC.out.below HBT.out HBC.out.lt).cell 4
            have z0 : T.cell? ⟨gd, 0, none⟩ = some (.slice A1 d.msgs.length c1) := (HBD.out.below HBT.out HBD.out.lt).cell 0
            have z1 : T.cell? ⟨gd, 1, none⟩ = some (.slice B1 d.chors.length k1) := (HBD.out.below HBT.out HBD.out.lt).cell 1
            clear hcall hi hr1 HI2 HIX
            go_wp2_with fail
            refine HCALL.out.mono ?_
            rintro e w1 ⟨rfl, hb1⟩
            have HB1 := Lib.hid (HBT.out.trans (hb1.mono HBT.out.size))
            clear HCALL hb1 x0 x1 x2 x3 x4 x5 x6 x7 x8 x9 y0 y1 y2 y3 y4 z0 z1
            cases r1
            · have hi := HI3.out
              simp only [Bool.false_and] at hi
              have HN := Lib.hid hi
              clear hi
              go_wp2_with fail
              go_ret
              exact ⟨ret_bool (by rw [← HN.out]; rfl), HBW.out.trans (Below.mono (HB1.out) HBW.out.size)⟩
            · have hi := HI3.out
              simp only [Bool.true_and] at hi
              have HN := Lib.hid hi
              clear hi
              go_wp2_with fail
              go_roundw
              case rel => exact ⟨k + 1, by omega, by go_num, HN, HB1.out⟩
              case measure => simp [intOf]; omega
          · have hb7 : (x.kind == 7) = false := by simp [k7]
            have hi := HI2.out
            rw [if_neg k3, if_neg k8, if_neg k7, Bool.true_and] at hi
            clear k3 k8 k7
            have HN := Lib.hid hi
            clear hi HI2
            go_wp2_with fail
            go_roundw
            case rel => exact ⟨k + 1, by omega, by go_num, HN, HBT.out⟩
            case measure => simp [intOf]; omega
    · have hi := hinv.out
      rw [List.drop_eq_nil_of_le (by omega), okL] at hi
      have hcl : ∀ q ∈ seqs, ∀ U, Below V.heap.size V U → Calls Try.prog 66 #[.agg #[.string q.id, .string q.src, .string q.dst], .pointer (some ⟨gd + 1 + 1, 0, none⟩)] U fun e w' => e = .returned (.bool (badSeq items q)) ∧ Below U.heap.size U w' := fun q _ U hU =>
        items4_any (Rd.below (hB.trans (hU.mono hB.size)) _ _ HI.out) (HBL.out.below (hB.trans (hU.mono hB.size)) HBL.out.lt) q
      have hcall := anyQ4_any (badSeq items) hcl (Rd.below hB _ _ HS.out)
      have HCALL := Lib.hid hcall
      have HB := Lib.hid hB
      have HRT := Lib.hid hi
      have hsb2 := HSQB.out
      unfold okSeqs at hsb2
      obtain ⟨sb, hsb⟩ : ∃ b, b = seqs.any (badSeq items) := ⟨_, rfl⟩
      rw [← hsb] at HCALL hsb2
      have HSB := Lib.hid hsb2
      clear hsb2
      clear hcl hcall hB hi hinv hsb
      go_wp2_with fail
      refine HCALL.out.mono ?_
      rintro e w1 ⟨rfl, hb1⟩
      go_wp2_with fail
      go_ret
      exact ⟨ret_bool (by rw [← HRT.out, HSB.out]; rfl), HBW.out.trans ((HB.out.trans (hb1.mono HB.out.size)).mono HBW.out.size)⟩
theorem items_any {d : DocD} {c : ChorD} {A1 B1 : Option Addr} {c1 k1 : Nat} {AP : Option Addr} {cP : Nat} {AF : Option Addr} {cF : Nat} {AI : Option Addr} {cI : Nat} {AS : Option Addr} {cS : Nat} : ∀ (n : Nat) (items : List ItemD) (seqs : List SeqD), depL items ≤ n → ItOk d c A1 B1 c1 k1 AP cP AF cF AI cI AS cS items seqs
  | 0, [], seqs, _ => items_step [] seqs (fun x hx => by cases hx)
  | 0, x :: l, seqs, h => by
    have h1 := depL_mem (List.mem_cons_self (a := x) (l := l))
    rw [depI_eq] at h1
    omega
  | n + 1, items, seqs, h => items_step items seqs (fun x hx => items_any n x.items x.seqs (by
    have h1 := depL_mem hx
    rw [depI_eq] at h1
    omega))
end Go.Proofs.Ytljmghaplnkohaa
