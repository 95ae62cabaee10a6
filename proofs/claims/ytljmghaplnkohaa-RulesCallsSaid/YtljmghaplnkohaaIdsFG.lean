/- The contract of ids.items, The contracts of ids.Refs and ids.Check, joined. -/
import Derived.Test.YtljmghaplnkohaaIdsE
import Derived.Test.YtljmghaplnkohaaIdsC
namespace Go.Proofs.Ytljmghaplnkohaa
open Go.RowKit
attribute [local go_sem ↓] Go.wp_at_zero Go.wp_at_succ

/-- What a level's check says. -/
def ItOk (d : DocD) (c : ChorD) (A1 B1 : Option Addr) (c1 k1 : Nat) (AP : Option Addr) (cP : Nat) (AF : Option Addr) (cF : Nat) (AI : Option Addr) (cI : Nat) (AS : Option Addr) (cS : Nat) (items : List ItemD) (seqs : List SeqD) : Prop := ∀ (w : World) (vI vS : Value),
  Rd w (msgsD d.msgs) (.slice A1 d.msgs.length c1) → Rd w (chorsD d.chors) (.slice B1 d.chors.length k1) → Comp w c.parts c.flows c.items c.seqs AP cP AF cF AI cI AS cS → Rd w (itemsD items) vI → Rd w (seqsD seqs) vS →
  Calls Try.prog 38 #[.agg #[.slice A1 d.msgs.length c1, .slice B1 d.chors.length k1], .agg #[.string c.id, .slice AP c.parts.length cP, .slice AF c.flows.length cF, .slice AI c.items.length cI, .slice AS c.seqs.length cS], vI, vS] w fun e w' => e = .returned (.bool (okL d c items && okSeqs items seqs)) ∧ Below w.heap.size w w'
theorem findFrom_inI {α : Type} (p : α → Bool) : ∀ (l : List α) (j : Nat), ¬ findFrom p l j < 0 → ∃ i, i < l.length ∧ findFrom p l j = ((j + i : Nat) : Int)
  | [], j, h => by unfold findFrom at h; omega
  | a :: l, j, h => by
    unfold findFrom at h ⊢
    by_cases hp : p a = true
    · rw [if_pos hp]; exact ⟨0, by simp, by simp⟩
    · rw [if_neg hp] at h ⊢
      obtain ⟨i, hi, he⟩ := findFrom_inI p l (j + 1) h
      exact ⟨i + 1, by simp; omega, by rw [he]; congr 1; omega⟩
theorem okL_drop (d : DocD) (c : ChorD) {l : List ItemD} {k : Nat} (h : k < l.length) : okL d c (l.drop k) = (okI d c l[k] && okL d c (l.drop (k + 1))) := by
  rw [List.drop_eq_getElem_cons h, okL]
set_option maxRecDepth 100000 in
set_option maxHeartbeats 16000000 in
theorem items_step {d : DocD} {c : ChorD} {A1 B1 : Option Addr} {c1 k1 : Nat} {AP : Option Addr} {cP : Nat} {AF : Option Addr} {cF : Nat} {AI : Option Addr} {cI : Nat} {AS : Option Addr} {cS : Nat} (items : List ItemD) (seqs : List SeqD) (ih : ∀ x ∈ items, ItOk d c A1 B1 c1 k1 AP cP AF cF AI cI AS cS x.items x.seqs) : ItOk d c A1 B1 c1 k1 AP cP AF cF AI cI AS cS items seqs := by
  intro w vI vS hm hcs hc hI hS
  obtain ⟨AX, cX, rfl, hIl, hIc, _⟩ := rd_at itemC_len hI
  have hlm : items.length ≤ maxLen := by omega
  unfold maxLen at hlm
  obtain ⟨AQ, cQ, rfl⟩ := rd_form hS
  obtain ⟨gd, hgd⟩ : ∃ g, g = w.heap.size := ⟨_, rfl⟩
  obtain ⟨W, hW⟩ : ∃ W, W = ((w.alloc (.cells #[.slice A1 d.msgs.length c1, .slice B1 d.chors.length k1] 42)).alloc (.cells #[.string c.id, .slice AP c.parts.length cP, .slice AF c.flows.length cF, .slice AI c.items.length cI, .slice AS c.seqs.length cS] 54)).alloc (.cells #[.slice AX items.length cX] 24) := ⟨_, rfl⟩
  have bW : Below w.heap.size w W := by rw [hW]; exact (((Below.refl _ _).alloc (Nat.le_refl _) _).alloc (by simp) _).alloc (by simp; omega) _
  have z1 : (w.alloc (.cells #[.slice A1 d.msgs.length c1, .slice B1 d.chors.length k1] 42)).heap.size = w.heap.size + 1 := by simp
  have z2 : ((w.alloc (.cells #[.slice A1 d.msgs.length c1, .slice B1 d.chors.length k1] 42)).alloc (.cells #[.string c.id, .slice AP c.parts.length cP, .slice AF c.flows.length cF, .slice AI c.items.length cI, .slice AS c.seqs.length cS] 54)).heap.size = w.heap.size + 1 + 1 := by simp
  have hbd : Blk W gd 42 #[.slice A1 d.msgs.length c1, .slice B1 d.chors.length k1] := by rw [hW, hgd]; exact ((Blk.new w _ _).alloc _).alloc _
  have hbc : Blk W (gd + 1) 54 #[.string c.id, .slice AP c.parts.length cP, .slice AF c.flows.length cF, .slice AI c.items.length cI, .slice AS c.seqs.length cS] := by
    have := (Blk.new (w.alloc (.cells #[.slice A1 d.msgs.length c1, .slice B1 d.chors.length k1] 42)) 54 #[.string c.id, .slice AP c.parts.length cP, .slice AF c.flows.length cF, .slice AI c.items.length cI, .slice AS c.seqs.length cS]).alloc (.cells #[.slice AX items.length cX] 24)
    rw [z1] at this
    rw [hW, hgd]; exact this
  have hbl : Blk W (gd + 1 + 1) 24 #[.slice AX items.length cX] := by
    have := Blk.new ((w.alloc (.cells #[.slice A1 d.msgs.length c1, .slice B1 d.chors.length k1] 42)).alloc (.cells #[.string c.id, .slice AP c.parts.length cP, .slice AF c.flows.length cF, .slice AI c.items.length cI, .slice AS c.seqs.length cS] 54)) 24 #[.slice AX items.length cX]
    rw [z2] at this
    rw [hW, hgd]; exact this
  have l0 : W.cell? ⟨gd + 1 + 1, 0, none⟩ = some (.slice AX items.length cX) := hbl.cell 0
  have HM := Lib.hid (Rd.below bW _ _ hm)
  have HCS := Lib.hid (Rd.below bW _ _ hcs)
  have HC := Lib.hid (hc.below bW)
  have HI := Lib.hid (Rd.below bW _ _ hI)
  have HS := Lib.hid (Rd.below bW _ _ hS)
  have HBD := Lib.hid hbd
  have HBC := Lib.hid hbc
  have HBL := Lib.hid hbl
  have HBW := Lib.hid bW
  have HW := Lib.hid hW.symm
  have HGD := Lib.hid hgd.symm
  have HIH := Lib.hid ih
  obtain ⟨res, hres⟩ : ∃ b, b = okL d c items := ⟨_, rfl⟩
  have HRES := Lib.hid hres.symm
  obtain ⟨sqb, hsqb⟩ : ∃ b, b = okSeqs items seqs := ⟨_, rfl⟩
  have HSQB := Lib.hid hsqb
  rw [← hsqb]
  clear hm hcs hc hI hS hbd hbc hbl bW hW z1 z2 ih hIl hIc hres hsqb
  rw [HRES.out]
  go_enter Try.func38, Try.ntmps38
  go_upto_region 1 with fail
  rw [HW.out, HGD.out]
  clear hgd HW
  go_wp2_with fail
  clear l0
  go_loopw [15] (fun iv wr => ∃ k : Nat, k ≤ items.length ∧ iv = .int .i64 k ∧ Hid (okL d c (items.drop k) = res) ∧ Below W.heap.size W wr) (fun iv _ => items.length - (intOf iv).toNat)
  case atStart => exact ⟨0, Nat.zero_le _, rfl, HRES.out, Below.refl _ _⟩
  case round =>
    obtain ⟨k, hk, rfl, hinv, hB⟩ := hrel
    obtain ⟨V, rfl⟩ : ∃ V, V = wr := ⟨_, rfl⟩
    by_cases hlt : k < items.length
    · obtain ⟨Ax, cx, hvx, _, _, hat⟩ := rd_at itemC_len HI.out
      injection hvx with e1 _ e3
      subst e1
      subst e3
      obtain ⟨b, vs, rfl, hb, _, hvs, hcell⟩ := hat k hlt
      obtain ⟨x, hx⟩ : ∃ x, x = items[k] := ⟨_, rfl⟩
      rw [← hx] at hvs
      obtain ⟨v3, v4, v7, v8, v9, rfl, h3, h4, h7, h8, h9⟩ := rd_itemC.1 hvs
      obtain ⟨A3, c3, rfl⟩ := rd_form h3
      obtain ⟨A4, c4, rfl⟩ := rd_form h4
      obtain ⟨A7, c7, rfl⟩ := rd_form h7
      obtain ⟨A8, c8, rfl⟩ := rd_form h8
      obtain ⟨A9, c9, rfl⟩ := rd_form h9
      have hi := hinv.out
      rw [okL_drop d c hlt, ← hx, okI_eq] at hi
      have e0 := (hB.cell (p := ⟨b, k * 10, none⟩) hb).trans (show W.cell? ⟨b, k * 10, none⟩ = some (.int .i64 x.kind) from hcell 0 (by omega))
      have e1 := (hB.cell (p := ⟨b, k * 10 + 1, none⟩) hb).trans (show W.cell? ⟨b, k * 10 + 1, none⟩ = some (.string x.id) from hcell 1 (by omega))
      have e2 := (hB.cell (p := ⟨b, k * 10 + 2, none⟩) hb).trans (show W.cell? ⟨b, k * 10 + 2, none⟩ = some (.string x.first) from hcell 2 (by omega))
      have e3 := (hB.cell (p := ⟨b, k * 10 + 3, none⟩) hb).trans (show W.cell? ⟨b, k * 10 + 3, none⟩ = some (.slice A3 x.parts.length c3) from hcell 3 (by omega))
      have e4 := (hB.cell (p := ⟨b, k * 10 + 4, none⟩) hb).trans (show W.cell? ⟨b, k * 10 + 4, none⟩ = some (.slice A4 x.flows.length c4) from hcell 4 (by omega))
      have e5 := (hB.cell (p := ⟨b, k * 10 + 5, none⟩) hb).trans (show W.cell? ⟨b, k * 10 + 5, none⟩ = some (.bool x.loop) from hcell 5 (by omega))
      have e6 := (hB.cell (p := ⟨b, k * 10 + 6, none⟩) hb).trans (show W.cell? ⟨b, k * 10 + 6, none⟩ = some (.string x.called) from hcell 6 (by omega))
      have e7 := (hB.cell (p := ⟨b, k * 10 + 7, none⟩) hb).trans (show W.cell? ⟨b, k * 10 + 7, none⟩ = some (.slice A7 x.maps.length c7) from hcell 7 (by omega))
      have e8 := (hB.cell (p := ⟨b, k * 10 + 8, none⟩) hb).trans (show W.cell? ⟨b, k * 10 + 8, none⟩ = some (.slice A8 x.items.length c8) from hcell 8 (by omega))
      have e9 := (hB.cell (p := ⟨b, k * 10 + 9, none⟩) hb).trans (show W.cell? ⟨b, k * 10 + 9, none⟩ = some (.slice A9 x.seqs.length c9) from hcell 9 (by omega))
      obtain ⟨gx, hgx⟩ : ∃ g, g = V.heap.size := ⟨_, rfl⟩
      obtain ⟨T, hT⟩ : ∃ T, T = V.alloc (.cells #[.int .i64 x.kind, .string x.id, .string x.first, .slice A3 x.parts.length c3, .slice A4 x.flows.length c4, .bool x.loop, .string x.called, .slice A7 x.maps.length c7, .slice A8 x.items.length c8, .slice A9 x.seqs.length c9] 30) := ⟨_, rfl⟩
      have bT : Below W.heap.size W T := by rw [hT]; exact hB.alloc hB.size _
      have hbx : Blk T gx 30 #[.int .i64 x.kind, .string x.id, .string x.first, .slice A3 x.parts.length c3, .slice A4 x.flows.length c4, .bool x.loop, .string x.called, .slice A7 x.maps.length c7, .slice A8 x.items.length c8, .slice A9 x.seqs.length c9] := by rw [hT, hgx]; exact Blk.new _ _ _
      have HBX := Lib.hid hbx
      have HBT := Lib.hid bT
      have HX := Lib.hid (show ItemV W x (.slice A3 x.parts.length c3) (.slice A4 x.flows.length c4) (.slice A7 x.maps.length c7) (.slice A8 x.items.length c8) (.slice A9 x.seqs.length c9) from ⟨h3, h4, h7, h8, h9⟩)
      have HIX := Lib.hid (HIH.out x (by rw [hx]; exact List.getElem_mem hlt))
      have HT := Lib.hid hT.symm
      have HGX := Lib.hid hgx.symm
      have HI2 := Lib.hid hi
      have hkI : (k : Int) < (items.length : Int) := by omega
      clear hB hinv hat hvs hcell hx h3 h4 h7 h8 h9 hi hT hgx bT hbx
      go_upto_region 4 with fail
      rw [HT.out, HGX.out]
      clear e0 e1 e2 e3 e4 e5 e6 e7 e8 e9 HT
      have x0 : T.cell? ⟨gx, 0, none⟩ = some (.int .i64 x.kind) := HBX.out.cell 0
      have x1 : T.cell? ⟨gx, 1, none⟩ = some (.string x.id) := HBX.out.cell 1
      have x2 : T.cell? ⟨gx, 2, none⟩ = some (.string x.first) := HBX.out.cell 2
      have x3 : T.cell? ⟨gx, 3, none⟩ = some (.slice A3 x.parts.length c3) := HBX.out.cell 3
      have x4 : T.cell? ⟨gx, 4, none⟩ = some (.slice A4 x.flows.length c4) := HBX.out.cell 4
      have x5 : T.cell? ⟨gx, 5, none⟩ = some (.bool x.loop) := HBX.out.cell 5
      have x6 : T.cell? ⟨gx, 6, none⟩ = some (.string x.called) := HBX.out.cell 6
      have x7 : T.cell? ⟨gx, 7, none⟩ = some (.slice A7 x.maps.length c7) := HBX.out.cell 7
      have x8 : T.cell? ⟨gx, 8, none⟩ = some (.slice A8 x.items.length c8) := HBX.out.cell 8
      have x9 : T.cell? ⟨gx, 9, none⟩ = some (.slice A9 x.seqs.length c9) := HBX.out.cell 9
      have hgxT := HBX.out.lt
      by_cases k3 : x.kind = 3
      · have hb3 : (x.kind == 3) = true := by simp [k3]
        have hi := HI2.out
        rw [if_pos k3] at hi
        clear k3
        unfold okTask at hi
        have hcall := idsPart_any (w := T) (vId := .string c.id) (vF := .slice AF c.flows.length cF) (vI := .slice AI c.items.length cI) (vS := .slice AS c.seqs.length cS) x.first (Rd.below HBT.out _ _ HC.out.parts)
        have hp : partAt c x.first = findFrom (fun y : PartD => eqS y.id x.first) c.parts 0 := rfl
        obtain ⟨q, hq⟩ : ∃ q, q = partAt c x.first := ⟨_, rfl⟩
        rw [← hq] at hp hi
        rw [← hp] at hcall
        have HCALL := Lib.hid hcall
        have HI3 := Lib.hid hi
        have y0 : T.cell? ⟨(gd + 1), 0, none⟩ = some (.string c.id) := (HBC.out.below HBT.out HBC.out.lt).cell 0
        have y1 : T.cell? ⟨(gd + 1), 1, none⟩ = some (.slice AP c.parts.length cP) := (HBC.out.below HBT.out HBC.out.lt).cell 1
        have y2 : T.cell? ⟨(gd + 1), 2, none⟩ = some (.slice AF c.flows.length cF) := (HBC.out.below HBT.out HBC.out.lt).cell 2
        have y3 : T.cell? ⟨(gd + 1), 3, none⟩ = some (.slice AI c.items.length cI) := (HBC.out.below HBT.out HBC.out.lt).cell 3
        have y4 : T.cell? ⟨(gd + 1), 4, none⟩ = some (.slice AS c.seqs.length cS) := (HBC.out.below HBT.out HBC.out.lt).cell 4
        clear hcall hi hp hq HI2 HIX
        go_wp2_with fail
        refine HCALL.out.mono ?_
        rintro e w1 ⟨rfl, hb1⟩
        have hbx1 := HBX.out.below hb1 HBX.out.lt
        have hB1 := HBT.out.trans (hb1.mono HBT.out.size)
        have x3' : w1.cell? ⟨gx, 3, none⟩ = some (.slice A3 x.parts.length c3) := hbx1.cell 3
        have HBX1 := Lib.hid hbx1
        have HB1 := Lib.hid hB1
        clear HCALL x0 x1 x2 x3 x4 x5 x6 x7 x8 x9 y0 y1 y2 y3 y4 hbx1 hb1 hB1 HBX
        by_cases hq0 : q < 0
        · have hi := HI3.out
          rw [show decide (0 ≤ q) = false by simp; omega] at hi
          simp only [Bool.false_and] at hi
          have HN := Lib.hid hi
          clear hi
          go_wp2_with fail
          go_ret
          exact ⟨ret_bool (by rw [← HN.out]; rfl), HBW.out.trans (Below.mono (HB1.out) HBW.out.size)⟩
        · have hi := HI3.out
          rw [show decide (0 ≤ q) = true by simp; omega] at hi
          simp only [Bool.true_and] at hi
          have hcl : ∀ p ∈ x.parts, ∀ U, Below w1.heap.size w1 U → Calls Try.prog 61 #[.string p, .pointer (some ⟨gd + 1, 0, none⟩)] U fun e w' => e = .returned (.bool (decide (partAt c p < 0))) ∧ Below U.heap.size U w' := fun p _ U hU =>
            items1_any (HC.out.below (HB1.out.trans (hU.mono HB1.out.size))) (HBC.out.below (HB1.out.trans (hU.mono HB1.out.size)) HBC.out.lt) p
          have hcall := anyS1_any (fun p => decide (partAt c p < 0)) hcl (Rd.below HB1.out _ _ HX.out.1)
          obtain ⟨r1, hr1⟩ : ∃ r, r = x.parts.any (fun p => decide (partAt c p < 0)) := ⟨_, rfl⟩
          rw [← hr1] at hcall hi
          have HCALL := Lib.hid hcall
          have HI4 := Lib.hid hi
          clear hcl hcall hi hr1 HI3
          go_wp2_with fail
          refine HCALL.out.mono ?_
          rintro e w2 ⟨rfl, hb2⟩
          have hbx2 := HBX1.out.below hb2 HBX1.out.lt
          have hB2 := HB1.out.trans (hb2.mono HB1.out.size)
          have x4' : w2.cell? ⟨gx, 4, none⟩ = some (.slice A4 x.flows.length c4) := hbx2.cell 4
          have HB2 := Lib.hid hB2
          clear HCALL hbx2 hb2 hB2 x3' HBX1
          cases r1
          · have hi := HI4.out
            simp only [Bool.not_false, Bool.true_and] at hi
            have hcl : ∀ p ∈ x.flows, ∀ U, Below w2.heap.size w2 U → Calls Try.prog 62 #[.string p, .pointer (some ⟨gd + 1, 0, none⟩)] U fun e w' => e = .returned (.bool (decide (flowAt c p < 0))) ∧ Below U.heap.size U w' := fun p _ U hU =>
              items2_any (HC.out.below (HB2.out.trans (hU.mono HB2.out.size))) (HBC.out.below (HB2.out.trans (hU.mono HB2.out.size)) HBC.out.lt) p
            have hcall := anyS2_any (fun p => decide (flowAt c p < 0)) hcl (Rd.below HB2.out _ _ HX.out.2.1)
            obtain ⟨r2, hr2⟩ : ∃ r, r = x.flows.any (fun p => decide (flowAt c p < 0)) := ⟨_, rfl⟩
            rw [← hr2] at hcall hi
            have HCALL := Lib.hid hcall
            have HI5 := Lib.hid hi
            clear hcl hcall hi hr2 HI4
            go_wp2_with fail
            refine HCALL.out.mono ?_
            rintro e w3 ⟨rfl, hb3⟩
            have HB3 := Lib.hid (HB2.out.trans (hb3.mono HB2.out.size))
            clear HCALL hb3 x4'
            cases r2
            · have hi := HI5.out
              simp only [Bool.not_false, Bool.true_and] at hi
              have HN := Lib.hid hi
              clear hi
              go_wp2_with fail
              go_roundw
              case rel => exact ⟨k + 1, by omega, by go_num, HN, HB3.out⟩
              case measure => simp [intOf]; omega
            · have hi := HI5.out
              simp only [Bool.not_true, Bool.false_and] at hi
              have HN := Lib.hid hi
              clear hi
              go_wp2_with fail
              go_ret
              exact ⟨ret_bool (by rw [← HN.out]; rfl), HBW.out.trans (Below.mono (HB3.out) HBW.out.size)⟩
          · have hi := HI4.out
            simp only [Bool.not_true, Bool.false_and] at hi
            have HN := Lib.hid hi
            clear hi
            go_wp2_with fail
            go_ret
            exact ⟨ret_bool (by rw [← HN.out]; rfl), HBW.out.trans (Below.mono (HB2.out) HBW.out.size)⟩
      · have hb3 : (x.kind == 3) = false := by simp [k3]
        by_cases k8 : x.kind = 8
        · have hb8 : (x.kind == 8) = true := by simp [k8]
          have hi := HI2.out
          rw [if_neg k3, if_pos k8] at hi
          clear k3 k8
          unfold okCall at hi
          have hcall := idsChor_any (w := T) (vM := .slice A1 d.msgs.length c1) x.called (Rd.below HBT.out _ _ HCS.out)
          have hp : chorAt d x.called = findFrom (fun y : ChorD => eqS y.id x.called) d.chors 0 := rfl
          have hin := findFrom_inI (fun y : ChorD => eqS y.id x.called) d.chors 0
          rw [← hp] at hin
          obtain ⟨q, hq⟩ : ∃ q, q = chorAt d x.called := ⟨_, rfl⟩
          rw [← hq] at hp hi hin
          rw [← hp] at hcall
          have HCALL := Lib.hid hcall
          have HI3 := Lib.hid hi
          have HIN := Lib.hid hin
          have y0 : T.cell? ⟨gd, 0, none⟩ = some (.slice A1 d.msgs.length c1) := (HBD.out.below HBT.out HBD.out.lt).cell 0
          have y1 : T.cell? ⟨gd, 1, none⟩ = some (.slice B1 d.chors.length k1) := (HBD.out.below HBT.out HBD.out.lt).cell 1
          clear hcall hi hp hq hin HI2 HIX
          go_wp2_with fail
          refine HCALL.out.mono ?_
          rintro e w1 ⟨rfl, hb1⟩
          obtain ⟨T2, hT2⟩ : ∃ T2, T2 = w1.alloc (.cells #[.int .i64 q] 3) := ⟨_, rfl⟩
          obtain ⟨gk, hgk⟩ : ∃ g, g = w1.heap.size := ⟨_, rfl⟩
          have bT2 : Below w1.heap.size w1 T2 := by rw [hT2]; exact (Below.refl _ _).alloc (Nat.le_refl _) _
          have hbk : Blk T2 gk 3 #[.int .i64 q] := by rw [hT2, hgk]; exact Blk.new _ _ _
          have hb12 := hb1.trans (bT2.mono hb1.size)
          have hbx1 := HBX.out.below hb12 HBX.out.lt
          have hB1 := HBT.out.trans (hb12.mono HBT.out.size)
          have x7' : T2.cell? ⟨gx, 7, none⟩ = some (.slice A7 x.maps.length c7) := hbx1.cell 7
          have xk : T2.cell? ⟨gk, 0, none⟩ = some (.int .i64 q) := hbk.cell 0
          have HBK := Lib.hid hbk
          have HB1 := Lib.hid hB1
          have HT2 := Lib.hid hT2.symm
          have HGK := Lib.hid hgk.symm
          clear HCALL x0 x1 x2 x3 x4 x5 x6 x7 x8 x9 y0 y1 hbx1 hb1 hB1 HBX hT2 hgk bT2 hbk hb12
          go_upto_region 10 with fail
          rw [HT2.out, HGK.out]
          clear HT2
          by_cases hq0 : q < 0
          · have hi := HI3.out
            rw [show decide (0 ≤ q) = false by simp; omega] at hi
            simp only [Bool.false_and] at hi
            have HN := Lib.hid hi
            clear hi
            go_wp2_with fail
            go_ret
            exact ⟨ret_bool (by rw [← HN.out]; rfl), HBW.out.trans (Below.mono (HB1.out) HBW.out.size)⟩
          · have hi := HI3.out
            rw [show decide (0 ≤ q) = true by simp; omega] at hi
            simp only [Bool.true_and] at hi
            obtain ⟨j, hj, hjq⟩ := HIN.out (by omega)
            rw [Nat.zero_add] at hjq
            rw [show q.toNat = j by omega] at hi
            have hcl : ∀ p ∈ x.maps, ∀ U, Below T2.heap.size T2 U → Calls Try.prog 64 #[.agg #[.string p.inner, .string p.outer], .pointer (some ⟨gd, 0, none⟩), .pointer (some ⟨gk, 0, none⟩), .pointer (some ⟨gd + 1, 0, none⟩)] U fun e w' => e = .returned (.bool (badMap (d.chors.getD j noChor) c p)) ∧ Below U.heap.size U w' := fun p _ U hU => by
              have hU1 := HB1.out.trans (hU.mono HB1.out.size)
              have hk0 := (HBK.out.below hU HBK.out.lt).cell 0
              exact items3_any (HC.out.below hU1) (Rd.below hU1 _ _ HCS.out) (HBD.out.below hU1 HBD.out.lt) (by rw [hk0, ← hjq]; rfl) (HBK.out.below hU HBK.out.lt).lt (HBC.out.below hU1 HBC.out.lt) hj p
            have hcall := anyM3_any (badMap (d.chors.getD j noChor) c) hcl (Rd.below HB1.out _ _ HX.out.2.2.1)
            obtain ⟨r1, hr1⟩ : ∃ r, r = x.maps.any (badMap (d.chors.getD j noChor) c) := ⟨_, rfl⟩
            rw [← hr1] at hcall hi
            have HCALL := Lib.hid hcall
            have HI4 := Lib.hid hi
            clear hcl hcall hi hr1 HI3 hjq
            go_wp2_with fail
            refine HCALL.out.mono ?_
            rintro e w2 ⟨rfl, hb2⟩
            have HB2 := Lib.hid (HB1.out.trans (hb2.mono HB1.out.size))
            clear HCALL hb2 x7' xk
            cases r1
            · have hi := HI4.out
              simp only [Bool.not_false, Bool.true_and] at hi
              have HN := Lib.hid hi
              clear hi
              go_wp2_with fail
              go_roundw
              case rel => exact ⟨k + 1, by omega, by go_num, HN, HB2.out⟩
              case measure => simp [intOf]; omega
            · have hi := HI4.out
              simp only [Bool.not_true, Bool.false_and] at hi
              have HN := Lib.hid hi
              clear hi
              go_wp2_with fail
              go_ret
              exact ⟨ret_bool (by rw [← HN.out]; rfl), HBW.out.trans (Below.mono (HB2.out) HBW.out.size)⟩
        · have hb8 : (x.kind == 8) = false := by simp [k8]
          by_cases k7 : x.kind = 7
          · have hb7 : (x.kind == 7) = true := by simp [k7]
            have hi := HI2.out
            rw [if_neg k3, if_neg k8, if_pos k7] at hi
            clear k3 k8 k7
            have hcall := HIX.out T _ _ (Rd.below HBT.out _ _ HM.out) (Rd.below HBT.out _ _ HCS.out) (HC.out.below HBT.out) (Rd.below HBT.out _ _ HX.out.2.2.2.1) (Rd.below HBT.out _ _ HX.out.2.2.2.2)
            obtain ⟨r1, hr1⟩ : ∃ r, r = (okL d c x.items && okSeqs x.items x.seqs) := ⟨_, rfl⟩
            rw [← hr1] at hcall hi
            have HCALL := Lib.hid hcall
            have HI3 := Lib.hid hi
            have y0 : T.cell? ⟨(gd + 1), 0, none⟩ = some (.string c.id) := (HBC.out.below HBT.out HBC.out.lt).cell 0
            have y1 : T.cell? ⟨(gd + 1), 1, none⟩ = some (.slice AP c.parts.length cP) := (HBC.out.below HBT.out HBC.out.lt).cell 1
            have y2 : T.cell? ⟨(gd + 1), 2, none⟩ = some (.slice AF c.flows.length cF) := (HBC.out.below HBT.out HBC.out.lt).cell 2
            have y3 : T.cell? ⟨(gd + 1), 3, none⟩ = some (.slice AI c.items.length cI) := (HBC.out.below HBT.out HBC.out.lt).cell 3
            have y4 : T.cell? ⟨(gd + 1), 4, none⟩ = some (.slice AS c.seqs.length cS) := (HBC.out.below HBT.out HBC.out.lt).cell 4
            have z0 : T.cell? ⟨gd, 0, none⟩ = some (.slice A1 d.msgs.length c1) := (HBD.out.below HBT.out HBD.out.lt).cell 0
            have z1 : T.cell? ⟨gd, 1, none⟩ = some (.slice B1 d.chors.length k1) := (HBD.out.below HBT.out HBD.out.lt).cell 1
            clear hcall hi hr1 HI2 HIX
            go_wp2_with fail
            refine HCALL.out.mono ?_
            rintro e w1 ⟨rfl, hb1⟩
            have HB1 := Lib.hid (HBT.out.trans (hb1.mono HBT.out.size))
            clear HCALL hb1 x0 x1 x2 x3 x4 x5 x6 x7 x8 x9 y0 y1 y2 y3 y4 z0 z1
            cases r1
            · have hi := HI3.out
              simp only [Bool.false_and] at hi
              have HN := Lib.hid hi
              clear hi
              go_wp2_with fail
              go_ret
              exact ⟨ret_bool (by rw [← HN.out]; rfl), HBW.out.trans (Below.mono (HB1.out) HBW.out.size)⟩
            · have hi := HI3.out
              simp only [Bool.true_and] at hi
              have HN := Lib.hid hi
              clear hi
              go_wp2_with fail
              go_roundw
              case rel => exact ⟨k + 1, by omega, by go_num, HN, HB1.out⟩
              case measure => simp [intOf]; omega
          · have hb7 : (x.kind == 7) = false := by simp [k7]
            have hi := HI2.out
            rw [if_neg k3, if_neg k8, if_neg k7, Bool.true_and] at hi
            clear k3 k8 k7
            have HN := Lib.hid hi
            clear hi HI2
            go_wp2_with fail
            go_roundw
            case rel => exact ⟨k + 1, by omega, by go_num, HN, HBT.out⟩
            case measure => simp [intOf]; omega
    · have hi := hinv.out
      rw [List.drop_eq_nil_of_le (by omega), okL] at hi
      have hcl : ∀ q ∈ seqs, ∀ U, Below V.heap.size V U → Calls Try.prog 66 #[.agg #[.string q.id, .string q.src, .string q.dst], .pointer (some ⟨gd + 1 + 1, 0, none⟩)] U fun e w' => e = .returned (.bool (badSeq items q)) ∧ Below U.heap.size U w' := fun q _ U hU =>
        items4_any (Rd.below (hB.trans (hU.mono hB.size)) _ _ HI.out) (HBL.out.below (hB.trans (hU.mono hB.size)) HBL.out.lt) q
      have hcall := anyQ4_any (badSeq items) hcl (Rd.below hB _ _ HS.out)
      have HCALL := Lib.hid hcall
      have HB := Lib.hid hB
      have HRT := Lib.hid hi
      have hsb2 := HSQB.out
      unfold okSeqs at hsb2
      obtain ⟨sb, hsb⟩ : ∃ b, b = seqs.any (badSeq items) := ⟨_, rfl⟩
      rw [← hsb] at HCALL hsb2
      have HSB := Lib.hid hsb2
      clear hsb2
      clear hcl hcall hB hi hinv hsb
      go_wp2_with fail
      refine HCALL.out.mono ?_
      rintro e w1 ⟨rfl, hb1⟩
      go_wp2_with fail
      go_ret
      exact ⟨ret_bool (by rw [← HRT.out, HSB.out]; rfl), HBW.out.trans ((HB.out.trans (hb1.mono HB.out.size)).mono HBW.out.size)⟩
theorem items_any {d : DocD} {c : ChorD} {A1 B1 : Option Addr} {c1 k1 : Nat} {AP : Option Addr} {cP : Nat} {AF : Option Addr} {cF : Nat} {AI : Option Addr} {cI : Nat} {AS : Option Addr} {cS : Nat} : ∀ (n : Nat) (items : List ItemD) (seqs : List SeqD), depL items ≤ n → ItOk d c A1 B1 c1 k1 AP cP AF cF AI cI AS cS items seqs
  | 0, [], seqs, _ => items_step [] seqs (fun x hx => by cases hx)
  | 0, x :: l, seqs, h => by
    have h1 := depL_mem (List.mem_cons_self (a := x) (l := l))
    rw [depI_eq] at h1
    omega
  | n + 1, items, seqs, h => items_step items seqs (fun x hx => items_any n x.items x.seqs (by
    have h1 := depL_mem hx
    rw [depI_eq] at h1
    omega))
end Go.Proofs.Ytljmghaplnkohaa
namespace Go.Proofs.Ytljmghaplnkohaa
open Go.RowKit
attribute [local go_sem ↓] Go.wp_at_zero Go.wp_at_succ

def badFlow (d : DocD) (c : ChorD) (f : FlowD) : Bool := decide (partAt c f.src < 0) || decide (partAt c f.dst < 0) || decide (msgAt d f.msg < 0)
def okC (d : DocD) (c : ChorD) : Bool := (!(c.flows.any (badFlow d c))) && (okL d c c.items && okSeqs c.items c.seqs)
def refsF (d : DocD) : Bool := d.chors.all (okC d)
def checkF (d : DocD) : Int := if (addsF [] (idsD d)).1 = 0 then (if refsF d = true then 0 else 6) else (addsF [] (idsD d)).1
set_option maxRecDepth 100000 in
set_option maxHeartbeats 16000000 in
theorem refs_any {w : World} (d : DocD) {A1 B1 : Option Addr} {c1 k1 : Nat} (hm : Rd w (msgsD d.msgs) (.slice A1 d.msgs.length c1)) (hcs : Rd w (chorsD d.chors) (.slice B1 d.chors.length k1)) :
    Calls Try.prog 21 #[.agg #[.slice A1 d.msgs.length c1, .slice B1 d.chors.length k1]] w fun e w' => e = .returned (.bool (refsF d)) ∧ Below w.heap.size w w' := by
  obtain ⟨res, hres⟩ : ∃ b, b = refsF d := ⟨_, rfl⟩
  rw [← hres]
  unfold refsF at hres
  obtain ⟨_, _, _, hcl1, hcl2, _⟩ := rd_at chorC_len hcs
  have hcm : d.chors.length ≤ maxLen := by omega
  unfold maxLen at hcm
  obtain ⟨gd, hgd⟩ : ∃ g, g = w.heap.size := ⟨_, rfl⟩
  obtain ⟨W, hW⟩ : ∃ W, W = w.alloc (.cells #[.slice A1 d.msgs.length c1, .slice B1 d.chors.length k1] 42) := ⟨_, rfl⟩
  have bW : Below w.heap.size w W := by rw [hW]; exact (Below.refl _ _).alloc (Nat.le_refl _) _
  have hbd : Blk W gd 42 #[.slice A1 d.msgs.length c1, .slice B1 d.chors.length k1] := by rw [hW, hgd]; exact Blk.new w _ _
  have d1 : W.cell? ⟨gd, 1, none⟩ = some (.slice B1 d.chors.length k1) := hbd.cell 1
  have HM := Lib.hid (Rd.below bW _ _ hm)
  have HCS := Lib.hid (Rd.below bW _ _ hcs)
  have HBD := Lib.hid hbd
  have HBW := Lib.hid bW
  have HW := Lib.hid hW.symm
  have HGD := Lib.hid hgd.symm
  have HRES := Lib.hid hres.symm
  clear hm hcs hbd bW hW hres hcl1 hcl2
  go_enter Try.func21, Try.ntmps21
  go_upto_region 1 with fail
  rw [HW.out, HGD.out]
  clear hgd HW
  go_wp2_with fail
  clear d1
  go_loopw [10] (fun iv wr => ∃ k : Nat, k ≤ d.chors.length ∧ iv = .int .i64 k ∧ Hid ((d.chors.drop k).all (okC d) = res) ∧ Below W.heap.size W wr) (fun iv _ => d.chors.length - (intOf iv).toNat)
  case atStart => exact ⟨0, Nat.zero_le _, rfl, HRES.out, Below.refl _ _⟩
  case round =>
    obtain ⟨k, hk, rfl, hinv, hB⟩ := hrel
    obtain ⟨V, rfl⟩ : ∃ V, V = wr := ⟨_, rfl⟩
    by_cases hlt : k < d.chors.length
    · obtain ⟨Ax, cx, hvx, _, _, hat⟩ := rd_at chorC_len HCS.out
      injection hvx with e1 _ e3
      subst e1
      subst e3
      obtain ⟨b, vs, rfl, hb, _, hvs, hcell⟩ := hat k hlt
      obtain ⟨c, hx⟩ : ∃ x, x = d.chors[k] := ⟨_, rfl⟩
      rw [← hx] at hvs
      have hi := hinv.out
      rw [List.drop_eq_getElem_cons hlt, List.all_cons, ← hx] at hi
      obtain ⟨vP, vF, vI, vS, rfl, hV⟩ := rd_chorC.1 hvs
      obtain ⟨AP, cP, rfl⟩ := rd_form hV.1
      obtain ⟨AF, cF, rfl⟩ := rd_form hV.2.1
      obtain ⟨AI, cI, rfl⟩ := rd_form hV.2.2.1
      obtain ⟨AS, cS, rfl⟩ := rd_form hV.2.2.2
      have hcomp : Comp W c.parts c.flows c.items c.seqs AP cP AF cF AI cI AS cS := ⟨hV.1, hV.2.1, hV.2.2.1, hV.2.2.2⟩
      have e0 := (hB.cell (p := ⟨b, k * 5, none⟩) hb).trans (show W.cell? ⟨b, k * 5, none⟩ = some (.string c.id) from hcell 0 (by omega))
      have e1 := (hB.cell (p := ⟨b, k * 5 + 1, none⟩) hb).trans (show W.cell? ⟨b, k * 5 + 1, none⟩ = some (.slice AP c.parts.length cP) from hcell 1 (by omega))
      have e2 := (hB.cell (p := ⟨b, k * 5 + 2, none⟩) hb).trans (show W.cell? ⟨b, k * 5 + 2, none⟩ = some (.slice AF c.flows.length cF) from hcell 2 (by omega))
      have e3 := (hB.cell (p := ⟨b, k * 5 + 3, none⟩) hb).trans (show W.cell? ⟨b, k * 5 + 3, none⟩ = some (.slice AI c.items.length cI) from hcell 3 (by omega))
      have e4 := (hB.cell (p := ⟨b, k * 5 + 4, none⟩) hb).trans (show W.cell? ⟨b, k * 5 + 4, none⟩ = some (.slice AS c.seqs.length cS) from hcell 4 (by omega))
      obtain ⟨gc, hgc⟩ : ∃ g, g = V.heap.size := ⟨_, rfl⟩
      obtain ⟨T, hT⟩ : ∃ T, T = V.alloc (.cells #[.string c.id, .slice AP c.parts.length cP, .slice AF c.flows.length cF, .slice AI c.items.length cI, .slice AS c.seqs.length cS] 54) := ⟨_, rfl⟩
      have bT : Below W.heap.size W T := by rw [hT]; exact hB.alloc hB.size _
      have hbc : Blk T gc 54 #[.string c.id, .slice AP c.parts.length cP, .slice AF c.flows.length cF, .slice AI c.items.length cI, .slice AS c.seqs.length cS] := by rw [hT, hgc]; exact Blk.new _ _ _
      obtain ⟨_, _, _, hfl1, hfl2, _⟩ := rd_at flowC_len hV.2.1
      have hfm : c.flows.length ≤ maxLen := by omega
      unfold maxLen at hfm
      have HBC := Lib.hid hbc
      have HBT := Lib.hid bT
      have HC := Lib.hid hcomp
      have HT := Lib.hid hT.symm
      have HGC := Lib.hid hgc.symm
      unfold okC at hi
      obtain ⟨rb, hrb⟩ : ∃ r, r = c.flows.any (badFlow d c) := ⟨_, rfl⟩
      rw [← hrb] at hi
      have HRB := Lib.hid hrb.symm
      have HI2 := Lib.hid hi
      have hkI : (k : Int) < (d.chors.length : Int) := by omega
      have c2 : T.cell? ⟨gc, 2, none⟩ = some (.slice AF c.flows.length cF) := hbc.cell 2
      clear hB hinv hat hvs hcell hx hV hcomp hi hT hgc bT hbc hrb hfl1 hfl2
      go_upto_region 4 with fail
      rw [HT.out, HGC.out]
      clear e0 e1 e2 e3 e4 HT
      go_wp2_with fail
      clear c2
      go_loopw [17] (fun iv wr => ∃ j : Nat, j ≤ c.flows.length ∧ iv = .int .i64 j ∧ Hid ((c.flows.drop j).any (badFlow d c) = rb) ∧ Below T.heap.size T wr) (fun iv _ => c.flows.length - (intOf iv).toNat)
      case atStart => exact ⟨0, Nat.zero_le _, rfl, HRB.out, Below.refl _ _⟩
      case round =>
        obtain ⟨j, hj, rfl, hinv, hB⟩ := hrel
        obtain ⟨V2, rfl⟩ : ∃ V, V = wr := ⟨_, rfl⟩
        by_cases hlt2 : j < c.flows.length
        · obtain ⟨Ay, cy, hvy, _, _, hat⟩ := rd_at flowC_len (Rd.below HBT.out _ _ HC.out.flows)
          injection hvy with e1 _ e3
          subst e1
          subst e3
          obtain ⟨bF, vs, rfl, hbF, _, hvs, hcell⟩ := hat j hlt2
          obtain ⟨f, hf⟩ : ∃ x, x = c.flows[j] := ⟨_, rfl⟩
          rw [← hf] at hvs
          obtain rfl := rd_flowC hvs
          have hi := hinv.out
          rw [List.drop_eq_getElem_cons hlt2, List.any_cons, ← hf] at hi
          unfold badFlow at hi
          have hp1 : partAt c f.src = findFrom (fun y : PartD => eqS y.id f.src) c.parts 0 := rfl
          have hp2 : partAt c f.dst = findFrom (fun y : PartD => eqS y.id f.dst) c.parts 0 := rfl
          have hp3 : msgAt d f.msg = findFrom (fun y : PartD => eqS y.id f.msg) d.msgs 0 := rfl
          obtain ⟨q1, hq1⟩ : ∃ q, q = partAt c f.src := ⟨_, rfl⟩
          obtain ⟨q2, hq2⟩ : ∃ q, q = partAt c f.dst := ⟨_, rfl⟩
          obtain ⟨q3, hq3⟩ : ∃ q, q = msgAt d f.msg := ⟨_, rfl⟩
          rw [← hq1] at hp1 hi
          rw [← hq2] at hp2 hi
          rw [← hq3] at hp3 hi
          have HQ1 := Lib.hid hp1
          have HQ2 := Lib.hid hp2
          have HQ3 := Lib.hid hp3
          have HI3 := Lib.hid hi
          have hbT := hbF
          have e0 := (hB.cell (p := ⟨bF, j * 4, none⟩) hbF).trans (show T.cell? ⟨bF, j * 4, none⟩ = some (.string f.id) from hcell 0 (by omega))
          have e1 := (hB.cell (p := ⟨bF, j * 4 + 1, none⟩) hbF).trans (show T.cell? ⟨bF, j * 4 + 1, none⟩ = some (.string f.src) from hcell 1 (by omega))
          have e2 := (hB.cell (p := ⟨bF, j * 4 + 2, none⟩) hbF).trans (show T.cell? ⟨bF, j * 4 + 2, none⟩ = some (.string f.dst) from hcell 2 (by omega))
          have e3 := (hB.cell (p := ⟨bF, j * 4 + 3, none⟩) hbF).trans (show T.cell? ⟨bF, j * 4 + 3, none⟩ = some (.string f.msg) from hcell 3 (by omega))
          obtain ⟨gf, hgf⟩ : ∃ g, g = V2.heap.size := ⟨_, rfl⟩
          obtain ⟨T2, hT2⟩ : ∃ T, T = V2.alloc (.cells #[.string f.id, .string f.src, .string f.dst, .string f.msg] 62) := ⟨_, rfl⟩
          have bT2 : Below T.heap.size T T2 := by rw [hT2]; exact hB.alloc hB.size _
          have hbf : Blk T2 gf 62 #[.string f.id, .string f.src, .string f.dst, .string f.msg] := by rw [hT2, hgf]; exact Blk.new _ _ _
          have hbW2 := HBT.out.trans (bT2.mono HBT.out.size)
          have HBF := Lib.hid hbf
          have HBT2 := Lib.hid bT2
          have HBW2 := Lib.hid hbW2
          have HT2 := Lib.hid hT2.symm
          have HGF := Lib.hid hgf.symm
          have hjI : (j : Int) < (c.flows.length : Int) := by omega
          clear hB hinv hat hvs hcell hf hi hp1 hp2 hp3 hq1 hq2 hq3 hT2 hgf bT2 hbf hbW2 hbT
          go_upto_region 7 with fail
          rw [HT2.out, HGF.out]
          clear e0 e1 e2 e3 HT2
          have pd0 : T2.cell? ⟨gd, 0, none⟩ = some (.slice A1 d.msgs.length c1) := (HBD.out.below HBW2.out HBD.out.lt).cell 0
          have pd1 : T2.cell? ⟨gd, 1, none⟩ = some (.slice (some ⟨b, 0, none⟩) d.chors.length k1) := (HBD.out.below HBW2.out HBD.out.lt).cell 1
          have pc0 : T2.cell? ⟨gc, 0, none⟩ = some (.string c.id) := (HBC.out.below HBT2.out HBC.out.lt).cell 0
          have pc1 : T2.cell? ⟨gc, 1, none⟩ = some (.slice AP c.parts.length cP) := (HBC.out.below HBT2.out HBC.out.lt).cell 1
          have pc2 : T2.cell? ⟨gc, 2, none⟩ = some (.slice (some ⟨bF, 0, none⟩) c.flows.length cF) := (HBC.out.below HBT2.out HBC.out.lt).cell 2
          have pc3 : T2.cell? ⟨gc, 3, none⟩ = some (.slice AI c.items.length cI) := (HBC.out.below HBT2.out HBC.out.lt).cell 3
          have pc4 : T2.cell? ⟨gc, 4, none⟩ = some (.slice AS c.seqs.length cS) := (HBC.out.below HBT2.out HBC.out.lt).cell 4
          have pf0 : T2.cell? ⟨gf, 0, none⟩ = some (.string f.id) := HBF.out.cell 0
          have pf1 : T2.cell? ⟨gf, 1, none⟩ = some (.string f.src) := HBF.out.cell 1
          have pf2 : T2.cell? ⟨gf, 2, none⟩ = some (.string f.dst) := HBF.out.cell 2
          have pf3 : T2.cell? ⟨gf, 3, none⟩ = some (.string f.msg) := HBF.out.cell 3
          go_wp2_with fail
          refine (idsPart_any f.src (Rd.below HBW2.out _ _ HC.out.parts)).mono ?_
          rintro e w1 ⟨rfl, hb1⟩
          rw [← HQ1.out]
          have HW1 := Lib.hid (HBW2.out.trans (hb1.mono HBW2.out.size))
          have HT1 := Lib.hid (HBT2.out.trans (hb1.mono HBT2.out.size))
          have HF1 := Lib.hid hb1
          clear hb1 pd0 pd1 pc0 pc1 pc2 pc3 pc4 pf0 pf1 pf2 pf3
          by_cases h1 : q1 < 0
          · have hi := HI3.out
            rw [show decide (q1 < 0) = true by simp [h1]] at hi
            simp only [Bool.true_or] at hi
            have HN := Lib.hid hi
            clear hi
            have hres := HI2.out
            have hrb : rb = true := HN.out.symm
            rw [hrb] at hres
            simp only [Bool.not_true, Bool.false_and] at hres
            have hrs : res = false := hres.symm
            clear hres hrb
            subst hrs
            go_wp2_with fail
            go_ret
            exact ⟨rfl, HBW.out.trans (Below.mono (HW1.out) HBW.out.size)⟩
          · have hi := HI3.out
            rw [show decide (q1 < 0) = false by simp; omega] at hi
            simp only [Bool.false_or] at hi
            have HI4 := Lib.hid hi
            clear hi HI3
            have qd0 : w1.cell? ⟨gd, 0, none⟩ = some (.slice A1 d.msgs.length c1) := (HBD.out.below HW1.out HBD.out.lt).cell 0
            have qd1 : w1.cell? ⟨gd, 1, none⟩ = some (.slice (some ⟨b, 0, none⟩) d.chors.length k1) := (HBD.out.below HW1.out HBD.out.lt).cell 1
            have qc0 : w1.cell? ⟨gc, 0, none⟩ = some (.string c.id) := (HBC.out.below HT1.out HBC.out.lt).cell 0
            have qc1 : w1.cell? ⟨gc, 1, none⟩ = some (.slice AP c.parts.length cP) := (HBC.out.below HT1.out HBC.out.lt).cell 1
            have qc2 : w1.cell? ⟨gc, 2, none⟩ = some (.slice (some ⟨bF, 0, none⟩) c.flows.length cF) := (HBC.out.below HT1.out HBC.out.lt).cell 2
            have qc3 : w1.cell? ⟨gc, 3, none⟩ = some (.slice AI c.items.length cI) := (HBC.out.below HT1.out HBC.out.lt).cell 3
            have qc4 : w1.cell? ⟨gc, 4, none⟩ = some (.slice AS c.seqs.length cS) := (HBC.out.below HT1.out HBC.out.lt).cell 4
            have qf0 : w1.cell? ⟨gf, 0, none⟩ = some (.string f.id) := (HBF.out.below HF1.out HBF.out.lt).cell 0
            have qf1 : w1.cell? ⟨gf, 1, none⟩ = some (.string f.src) := (HBF.out.below HF1.out HBF.out.lt).cell 1
            have qf2 : w1.cell? ⟨gf, 2, none⟩ = some (.string f.dst) := (HBF.out.below HF1.out HBF.out.lt).cell 2
            have qf3 : w1.cell? ⟨gf, 3, none⟩ = some (.string f.msg) := (HBF.out.below HF1.out HBF.out.lt).cell 3
            go_wp2_with fail
            refine (idsPart_any f.dst (Rd.below HW1.out _ _ HC.out.parts)).mono ?_
            rintro e w2 ⟨rfl, hb2⟩
            rw [← HQ2.out]
            have HW2 := Lib.hid (HW1.out.trans (hb2.mono HW1.out.size))
            have HT2 := Lib.hid (HT1.out.trans (hb2.mono HT1.out.size))
            have HF2 := Lib.hid (HF1.out.trans (hb2.mono HF1.out.size))
            clear hb2 qd0 qd1 qc0 qc1 qc2 qc3 qc4 qf0 qf1 qf2 qf3
            by_cases h2 : q2 < 0
            · have hi := HI4.out
              rw [show decide (q2 < 0) = true by simp [h2]] at hi
              simp only [Bool.true_or] at hi
              have HN := Lib.hid hi
              clear hi
              have hres := HI2.out
              have hrb : rb = true := HN.out.symm
              rw [hrb] at hres
              simp only [Bool.not_true, Bool.false_and] at hres
              have hrs : res = false := hres.symm
              clear hres hrb
              subst hrs
              go_wp2_with fail
              go_ret
              exact ⟨rfl, HBW.out.trans (Below.mono (HW2.out) HBW.out.size)⟩
            · have hi := HI4.out
              rw [show decide (q2 < 0) = false by simp; omega] at hi
              simp only [Bool.false_or] at hi
              have HI5 := Lib.hid hi
              clear hi HI4
              have rd0 : w2.cell? ⟨gd, 0, none⟩ = some (.slice A1 d.msgs.length c1) := (HBD.out.below HW2.out HBD.out.lt).cell 0
              have rd1 : w2.cell? ⟨gd, 1, none⟩ = some (.slice (some ⟨b, 0, none⟩) d.chors.length k1) := (HBD.out.below HW2.out HBD.out.lt).cell 1
              have rc0 : w2.cell? ⟨gc, 0, none⟩ = some (.string c.id) := (HBC.out.below HT2.out HBC.out.lt).cell 0
              have rc1 : w2.cell? ⟨gc, 1, none⟩ = some (.slice AP c.parts.length cP) := (HBC.out.below HT2.out HBC.out.lt).cell 1
              have rc2 : w2.cell? ⟨gc, 2, none⟩ = some (.slice (some ⟨bF, 0, none⟩) c.flows.length cF) := (HBC.out.below HT2.out HBC.out.lt).cell 2
              have rc3 : w2.cell? ⟨gc, 3, none⟩ = some (.slice AI c.items.length cI) := (HBC.out.below HT2.out HBC.out.lt).cell 3
              have rc4 : w2.cell? ⟨gc, 4, none⟩ = some (.slice AS c.seqs.length cS) := (HBC.out.below HT2.out HBC.out.lt).cell 4
              have rf0 : w2.cell? ⟨gf, 0, none⟩ = some (.string f.id) := (HBF.out.below HF2.out HBF.out.lt).cell 0
              have rf1 : w2.cell? ⟨gf, 1, none⟩ = some (.string f.src) := (HBF.out.below HF2.out HBF.out.lt).cell 1
              have rf2 : w2.cell? ⟨gf, 2, none⟩ = some (.string f.dst) := (HBF.out.below HF2.out HBF.out.lt).cell 2
              have rf3 : w2.cell? ⟨gf, 3, none⟩ = some (.string f.msg) := (HBF.out.below HF2.out HBF.out.lt).cell 3
              go_wp2_with fail
              refine (idsMsg_any f.msg (Rd.below HW2.out _ _ HM.out)).mono ?_
              rintro e w3 ⟨rfl, hb3⟩
              rw [← HQ3.out]
              have HW3 := Lib.hid (HW2.out.trans (hb3.mono HW2.out.size))
              have HT3 := Lib.hid (HT2.out.trans (hb3.mono HT2.out.size))
              clear hb3 rd0 rd1 rc0 rc1 rc2 rc3 rc4 rf0 rf1 rf2 rf3
              by_cases h3 : q3 < 0
              · have hi := HI5.out
                rw [show decide (q3 < 0) = true by simp [h3]] at hi
                simp only [Bool.true_or] at hi
                have HN := Lib.hid hi
                clear hi
                have hres := HI2.out
                have hrb : rb = true := HN.out.symm
                rw [hrb] at hres
                simp only [Bool.not_true, Bool.false_and] at hres
                have hrs : res = false := hres.symm
                clear hres hrb
                subst hrs
                go_wp2_with fail
                go_ret
                exact ⟨rfl, HBW.out.trans (Below.mono (HW3.out) HBW.out.size)⟩
              · have hi := HI5.out
                rw [show decide (q3 < 0) = false by simp; omega] at hi
                simp only [Bool.false_or] at hi
                have HN := Lib.hid hi
                clear hi
                go_wp2_with fail
                go_roundw
                case rel => exact ⟨j + 1, by omega, by go_num, HN, HT3.out⟩
                case measure => simp [intOf]; omega
        · have hi := hinv.out
          rw [List.drop_eq_nil_of_le (by omega), List.any_nil] at hi
          have HB := Lib.hid hB
          have hrb : rb = false := hi.symm
          subst hrb
          have hi2 := HI2.out
          simp only [Bool.not_false, Bool.true_and] at hi2
          have hbW := HBT.out.trans (hB.mono HBT.out.size)
          have hcall := items_any (depL c.items) c.items c.seqs (Nat.le_refl _) V2 _ _ (Rd.below hbW _ _ HM.out) (Rd.below hbW _ _ HCS.out) (HC.out.below hbW) (Rd.below hbW _ _ HC.out.items) (Rd.below hbW _ _ HC.out.seqs)
          obtain ⟨r1, hr1⟩ : ∃ r, r = (okL d c c.items && okSeqs c.items c.seqs) := ⟨_, rfl⟩
          rw [← hr1] at hcall hi2
          have HCALL := Lib.hid hcall
          have HI4 := Lib.hid hi2
          have HBWV := Lib.hid hbW
          have s0 : V2.cell? ⟨gd, 0, none⟩ = some (.slice A1 d.msgs.length c1) := (HBD.out.below hbW HBD.out.lt).cell 0
          have s1 : V2.cell? ⟨gd, 1, none⟩ = some (.slice (some ⟨b, 0, none⟩) d.chors.length k1) := (HBD.out.below hbW HBD.out.lt).cell 1
          have t0 : V2.cell? ⟨gc, 0, none⟩ = some (.string c.id) := (HBC.out.below HB.out HBC.out.lt).cell 0
          have t1 : V2.cell? ⟨gc, 1, none⟩ = some (.slice AP c.parts.length cP) := (HBC.out.below HB.out HBC.out.lt).cell 1
          have t2 : V2.cell? ⟨gc, 2, none⟩ = some (.slice AF c.flows.length cF) := (HBC.out.below HB.out HBC.out.lt).cell 2
          have t3 : V2.cell? ⟨gc, 3, none⟩ = some (.slice AI c.items.length cI) := (HBC.out.below HB.out HBC.out.lt).cell 3
          have t4 : V2.cell? ⟨gc, 4, none⟩ = some (.slice AS c.seqs.length cS) := (HBC.out.below HB.out HBC.out.lt).cell 4
          clear hB hinv hi hi2 hbW hcall hr1
          go_wp2_with fail
          refine HCALL.out.mono ?_
          rintro e w1 ⟨rfl, hb1⟩
          have HW1 := Lib.hid (HBWV.out.trans (hb1.mono HBWV.out.size))
          clear HCALL hb1 s0 s1 t0 t1 t2 t3 t4
          cases r1
          · have hi := HI4.out
            simp only [Bool.false_and] at hi
            have hrs : res = false := hi.symm
            clear hi HI4
            subst hrs
            go_wp2_with fail
            go_ret
            exact ⟨rfl, HBW.out.trans (HW1.out.mono HBW.out.size)⟩
          · have hi := HI4.out
            simp only [Bool.true_and] at hi
            have HN := Lib.hid hi
            clear hi HI4
            go_wp2_with fail
            go_roundw
            case rel => exact ⟨k + 1, by omega, by go_num, HN, HW1.out⟩
            case measure => simp [intOf]; omega
    · have hi := hinv.out
      rw [List.drop_eq_nil_of_le (by omega), List.all_nil] at hi
      have HB := Lib.hid hB
      have hrr : res = true := hi.symm
      subst hrr
      clear hB hi hinv
      go_wp2_with fail
      go_ret
      exact ⟨rfl, HBW.out.trans (HB.out.mono HBW.out.size)⟩
set_option maxRecDepth 100000 in
set_option maxHeartbeats 2000000 in
theorem check_any {w : World} (d : DocD) {A1 B1 : Option Addr} {c1 k1 : Nat} (hm : Rd w (msgsD d.msgs) (.slice A1 d.msgs.length c1)) (hcs : Rd w (chorsD d.chors) (.slice B1 d.chors.length k1)) (hfit : IdsFit [] (idsD d)) :
    Calls Try.prog 20 #[.agg #[.slice A1 d.msgs.length c1, .slice B1 d.chors.length k1]] w fun e w' => e = .returned (.int .i64 (checkF d)) ∧ Below w.heap.size w w' := by
  obtain ⟨res, hres⟩ : ∃ b, b = checkF d := ⟨_, rfl⟩
  rw [← hres]
  unfold checkF at hres
  obtain ⟨gd, hgd⟩ : ∃ g, g = w.heap.size := ⟨_, rfl⟩
  obtain ⟨W, hW⟩ : ∃ W, W = w.alloc (.cells #[.slice A1 d.msgs.length c1, .slice B1 d.chors.length k1] 42) := ⟨_, rfl⟩
  have bW : Below w.heap.size w W := by rw [hW]; exact (Below.refl _ _).alloc (Nat.le_refl _) _
  have hbd : Blk W gd 42 #[.slice A1 d.msgs.length c1, .slice B1 d.chors.length k1] := by rw [hW, hgd]; exact Blk.new w _ _
  have hnew := new_any d (Rd.below bW _ _ hm) (Rd.below bW _ _ hcs) hfit
  have hrf := fun U (k : Below W.heap.size W U) => refs_any d (Rd.below (bW.trans (k.mono bW.size)) _ _ hm) (Rd.below (bW.trans (k.mono bW.size)) _ _ hcs)
  obtain ⟨r, hr⟩ : ∃ r, r = addsF [] (idsD d) := ⟨_, rfl⟩
  obtain ⟨rb, hrb⟩ : ∃ b, b = refsF d := ⟨_, rfl⟩
  rw [← hr] at hres hnew
  rw [← hrb] at hres hrf
  have d0 : W.cell? ⟨gd, 0, none⟩ = some (.slice A1 d.msgs.length c1) := hbd.cell 0
  have d1 : W.cell? ⟨gd, 1, none⟩ = some (.slice B1 d.chors.length k1) := hbd.cell 1
  have HNEW := Lib.hid hnew
  have HRF := Lib.hid hrf
  have HBD := Lib.hid hbd
  have HBW := Lib.hid bW
  have HW := Lib.hid hW.symm
  have HGD := Lib.hid hgd.symm
  have HRES := Lib.hid hres.symm
  clear hm hcs hbd bW hW hres hnew hrf hr hrb hfit
  go_enter Try.func20, Try.ntmps20
  go_upto_region 1 with fail
  rw [HW.out, HGD.out]
  clear hgd HW
  go_wp2_with fail
  refine HNEW.out.mono ?_
  clear HNEW
  rintro e w1 h1
  rcases h1 with ⟨hz, rfl, hb1⟩ | ⟨hz, g, rfl, hT⟩
  · have hzb : (r.1 == 0) = false := by simp [hz]
    have hres := HRES.out
    rw [if_neg hz] at hres
    have HF := Lib.hid (HBW.out.trans (hb1.mono HBW.out.size))
    have HR := Lib.hid hres
    clear hz hres hb1 d0 d1
    go_wp2_with fail
    go_ret
    exact ⟨ret_int HR.out, HF.out⟩
  · have hres := HRES.out
    rw [if_pos hz] at hres
    have hb1 := hT.bel
    have HR := Lib.hid hres
    have d0' : w1.cell? ⟨gd, 0, none⟩ = some (.slice A1 d.msgs.length c1) := (HBD.out.below hb1 HBD.out.lt).cell 0
    have d1' : w1.cell? ⟨gd, 1, none⟩ = some (.slice B1 d.chors.length k1) := (HBD.out.below hb1 HBD.out.lt).cell 1
    have HB1 := Lib.hid hb1
    clear hz hres hb1 d0 d1 hT
    go_wp2_with fail
    refine (HRF.out _ HB1.out).mono ?_
    rintro e w2 ⟨rfl, hb2⟩
    have HF := Lib.hid (HBW.out.trans ((HB1.out.trans (hb2.mono HB1.out.size)).mono HBW.out.size))
    clear hb2 d0' d1'
    cases rb
    · have hres := HR.out
      rw [if_neg (by decide)] at hres
      have HR2 := Lib.hid hres
      clear hres
      go_wp2_with fail
      go_ret
      exact ⟨ret_int HR2.out, HF.out⟩
    · have hres := HR.out
      rw [if_pos rfl] at hres
      have HR2 := Lib.hid hres
      clear hres
      go_wp2_with fail
      go_ret
      exact ⟨ret_int HR2.out, HF.out⟩
end Go.Proofs.Ytljmghaplnkohaa
