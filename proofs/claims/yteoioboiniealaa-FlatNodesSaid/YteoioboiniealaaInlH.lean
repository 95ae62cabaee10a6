/- The contract of (*inline.maker).call. -/
import Derived.Test.YteoioboiniealaaInlG
namespace Go.Proofs.Yteoioboiniealaa
open Go.RowKit
attribute [local go_sem ↓] Go.wp_at_zero Go.wp_at_succ

set_option maxRecDepth 100000 in
set_option maxHeartbeats 8000000 in
theorem call_ok (d : DocD) (hd : ∀ c ∈ d.chors, SmallC c) (f : Nat) (hI : ItemsOK d f) : CallOK d f := by
  intro w0 w m vM vC vP vF vMp vI vS vms vop p ms op x y s s' hb0 hC hM hms hop hst hF hid hml hp hol hn hn0 hfl
  obtain ⟨i0, hi0, hz0, hz1, hz2⟩ := info_parts Try.infoFlow
  obtain ⟨AC, cC, rfl, hlc, hcm, hatC⟩ := rd_at chorC_len hC
  unfold maxLen at hcm
  have HATC := Lib.hid hatC
  clear hatC
  have HC := Lib.hid hC
  have HM := Lib.hid hM
  have HMS := Lib.hid hms
  have HOP := Lib.hid hop
  have HF := Lib.hid hF
  have HB0 := Lib.hid hb0
  have hsz0 := hb0.size
  have HST0 := Lib.hid hst
  have HI := Lib.hid hI
  clear hC hM hms hop hst hF hb0 hI
  go_enter Try.func71, Try.ntmps71
  go_upto_region 2 with fail
  obtain ⟨W, hWe⟩ : ∃ W, W = ((w.alloc (.cells (c7v x vP vF vMp vI vS) 33)).alloc (.cells #[.int .i64 0, .string ⟨#[]⟩, .string ⟨#[]⟩, .slice none 0 0, .slice none 0 0, .bool false, .string ⟨#[]⟩, .slice none 0 0, .slice none 0 0, .slice none 0 0] 33)).alloc (.cells (c11v (p ++ x.id) (.slice none 0 0) (.slice none 0 0)) 33) := ⟨_, rfl⟩
  have hbW : Below w.heap.size w W := by
    rw [hWe]
    exact (((Below.refl _ _).alloc (Nat.le_refl _) _).alloc (by simp) _).alloc (by simp; omega) _
  have hCW : CallW w0.heap.size w (c7v x vP vF vMp vI vS) (c11v (p ++ x.id) (.slice none 0 0) (.slice none 0 0)) W := by
    refine ⟨Mk.of_below hbW hsz0, ?_, ?_, ?_⟩
    · rw [hWe]; exact ((Blk.new _ _ _).alloc _).alloc _
    · rw [hWe]
      have := (Blk.new (w.alloc (.cells (c7v x vP vF vMp vI vS) 33)) 33 #[.int .i64 0, .string ⟨#[]⟩, .string ⟨#[]⟩, .slice none 0 0, .slice none 0 0, .bool false, .string ⟨#[]⟩, .slice none 0 0, .slice none 0 0, .slice none 0 0]).alloc (.cells (c11v (p ++ x.id) (.slice none 0 0) (.slice none 0 0)) 33)
      simpa using this
    · rw [hWe]
      have := Blk.new ((w.alloc (.cells (c7v x vP vF vMp vI vS) 33)).alloc (.cells #[.int .i64 0, .string ⟨#[]⟩, .string ⟨#[]⟩, .slice none 0 0, .slice none 0 0, .bool false, .string ⟨#[]⟩, .slice none 0 0, .slice none 0 0, .slice none 0 0] 33)) 33 (c11v (p ++ x.id) (.slice none 0 0) (.slice none 0 0))
      simpa using this
  have hSTW := HST0.out.below hbW
  have hszW : w.heap.size + 3 = W.heap.size := by rw [hWe]; simp
  unfold c7v c11v at hWe
  rw [← hWe]
  have HCW := Lib.hid hCW
  have HSTW := Lib.hid hSTW
  have hgl : w.heap.size + 3 ≤ W.heap.size := by omega
  obtain ⟨vFl, m0, m1, m2, m3, m4, hml2⟩ := hSTW.cells
  have x6 : W.cell? ⟨w.heap.size, 6, none⟩ = some (.string x.called) := hCW.b7.cell 6
  have HBW := Lib.hid hbW
  have hCh : Hid (∀ V, Below w0.heap.size w0 V → Rd V (chorsD d.chors) (.slice AC d.chors.length cC)) := fun V hb => Rd.below hb _ _ HC.out
  clear hWe hbW hCW hSTW hszW m2 m3 m4
  obtain ⟨k, hk⟩ : ∃ k, k = findFrom (fun c : ChorD => eqS c.id x.called) d.chors 0 := ⟨_, rfl⟩
  have HK := Lib.hid hk
  have hids := fun V (hb : Below w0.heap.size w0 V) => idsChor_any (vM := vM) x.called (hCh.out V hb)
  rw [← hk] at hids
  have HIDS := Lib.hid hids
  clear hk hids
  have hb0W : Below w0.heap.size w0 W := HB0.out.trans (HBW.out.mono hsz0)
  have HB0W := Lib.hid hb0W
  clear hb0W
  go_region_held3 (fun w' => w'.cell? ⟨m, 0, none⟩ = some vM ∧ w'.cell? ⟨m, 1, none⟩ = some (.slice AC d.chors.length cC) ∧ w'.cell? ⟨w.heap.size, 6, none⟩ = some (.string x.called))
    (first | go_keep | (go_split_ands; refine ⟨?_, ?_, ?_⟩ <;> (exact (hb1.cell (by simp; omega)).trans (by assumption))))
    ((go_at_call 44; refine (HIDS.out _ HB0W.out.drew).mono ?_; rintro e w1 ⟨rfl, hb1⟩))

  all_goals
    have hmk1 : Mk w0.heap.size W w1 := (Mk.refl _ _).drew.below hb1 (by omega)
    have hcw1 := HCW.out.step hmk1
    have hst1 := (HSTW.out.below (Below.refl _ _).drew).below hb1
    have HCW1 := Lib.hid hcw1
    have HST1 := Lib.hid hst1
    have hsz1 := hmk1.size
    clear hmk1 hcw1 hst1 hb1 x6 m0 m1
    by_cases hk0 : k < 0
    · have hF := HF.out
      unfold callG at hF
      rw [← HK.out, if_pos hk0] at hF
      injection hF with hF
      injection hF with hy hs
      have HY := Lib.hid hy
      have HS := Lib.hid hs
      clear hy hs
      go_wp2_with fail
      refine (wrong_mk 6 HST1.out).mono ?_
      rintro e w2 ⟨rfl, hst2, hmk2⟩
      have hcw2 := HCW1.out.step hmk2
      have z0 : w2.cell? ⟨w.heap.size + 1 + 1, 0, none⟩ = some (.int .i64 7) := hcw2.b11.cell 0
      have z1 : w2.cell? ⟨w.heap.size + 1 + 1, 1, none⟩ = some (.string (p ++ x.id)) := hcw2.b11.cell 1
      have z2 : w2.cell? ⟨w.heap.size + 1 + 1, 2, none⟩ = some (.string ⟨#[]⟩) := hcw2.b11.cell 2
      have z3 : w2.cell? ⟨w.heap.size + 1 + 1, 3, none⟩ = some (.slice none 0 0) := hcw2.b11.cell 3
      have z4 : w2.cell? ⟨w.heap.size + 1 + 1, 4, none⟩ = some (.slice none 0 0) := hcw2.b11.cell 4
      have z5 : w2.cell? ⟨w.heap.size + 1 + 1, 5, none⟩ = some (.bool false) := hcw2.b11.cell 5
      have z6 : w2.cell? ⟨w.heap.size + 1 + 1, 6, none⟩ = some (.string ⟨#[]⟩) := hcw2.b11.cell 6
      have z7 : w2.cell? ⟨w.heap.size + 1 + 1, 7, none⟩ = some (.slice none 0 0) := hcw2.b11.cell 7
      have z8 : w2.cell? ⟨w.heap.size + 1 + 1, 8, none⟩ = some (.slice none 0 0) := hcw2.b11.cell 8
      have z9 : w2.cell? ⟨w.heap.size + 1 + 1, 9, none⟩ = some (.slice none 0 0) := hcw2.b11.cell 9
      have y0 : w2.cell? ⟨w.heap.size + 1, 0, none⟩ = some (.int .i64 0) := hcw2.b10.cell 0
      have y1 : w2.cell? ⟨w.heap.size + 1, 1, none⟩ = some (.string ⟨#[]⟩) := hcw2.b10.cell 1
      have y2 : w2.cell? ⟨w.heap.size + 1, 2, none⟩ = some (.string ⟨#[]⟩) := hcw2.b10.cell 2
      have y3 : w2.cell? ⟨w.heap.size + 1, 3, none⟩ = some (.slice none 0 0) := hcw2.b10.cell 3
      have y4 : w2.cell? ⟨w.heap.size + 1, 4, none⟩ = some (.slice none 0 0) := hcw2.b10.cell 4
      have y5 : w2.cell? ⟨w.heap.size + 1, 5, none⟩ = some (.bool false) := hcw2.b10.cell 5
      have y6 : w2.cell? ⟨w.heap.size + 1, 6, none⟩ = some (.string ⟨#[]⟩) := hcw2.b10.cell 6
      have y7 : w2.cell? ⟨w.heap.size + 1, 7, none⟩ = some (.slice none 0 0) := hcw2.b10.cell 7
      have y8 : w2.cell? ⟨w.heap.size + 1, 8, none⟩ = some (.slice none 0 0) := hcw2.b10.cell 8
      have y9 : w2.cell? ⟨w.heap.size + 1, 9, none⟩ = some (.slice none 0 0) := hcw2.b10.cell 9
      have q0 := hcw2.b10.frozen 0
      have q1 := hcw2.b10.frozen 1
      have q2 := hcw2.b10.frozen 2
      have q3 := hcw2.b10.frozen 3
      have q4 := hcw2.b10.frozen 4
      have q5 := hcw2.b10.frozen 5
      have q6 := hcw2.b10.frozen 6
      have q7 := hcw2.b10.frozen 7
      have q8 := hcw2.b10.frozen 8
      have q9 := hcw2.b10.frozen 9
      have HCW2 := Lib.hid hcw2
      have HST2 := Lib.hid hst2
      clear hcw2 hst2 hmk2
      go_wp2_with fail
      have hb3 := setAll_blk (vs := [.int .i64 7, .string (p ++ x.id), .string ⟨#[]⟩, .slice none 0 0, .slice none 0 0, .bool false, .string ⟨#[]⟩, .slice none 0 0, .slice none 0 0, .slice none 0 0]) 0 w2 _ HCW2.out.b10 rfl
      have hend : CallEnd w0.heap.size w m vM (.slice AC d.chors.length cC) y s' (.returned (.agg #[.int .i64 7, .string (p ++ x.id), .string ⟨#[]⟩, .slice none 0 0, .slice none 0 0, .bool false, .string ⟨#[]⟩, .slice none 0 0, .slice none 0 0, .slice none 0 0])) (setAll w2 (w.heap.size + 1) 0 [.int .i64 7, .string (p ++ x.id), .string ⟨#[]⟩, .slice none 0 0, .slice none 0 0, .bool false, .string ⟨#[]⟩, .slice none 0 0, .slice none 0 0, .slice none 0 0]) := by
        rw [← HY.out, ← HS.out]
        exact ⟨_, _, rfl, rfl, rd_nil_items, rd_nil_seqs, HST2.out.new_ (setAll_grown _ _) HCW2.out.b10, HCW2.out.mk_.setAll_ (by omega) hsz0 _ _⟩
      exact bodyPost_ret (ret_call hb3 rfl) rfl hend
    · obtain ⟨i, hi, hki⟩ : ∃ i, i < d.chors.length ∧ k = (i : Int) := by
        have hk := HK.out
        rw [hk] at hk0 ⊢
        obtain ⟨i, hi, he⟩ := findFrom_in _ _ _ hk0
        exact ⟨i, hi, by rw [he]; congr 1; omega⟩
      subst hki
      clear hk0
      have x6 : w1.cell? ⟨w.heap.size, 6, none⟩ = some (.string x.called) := HCW1.out.b7.cell 6
      go_wp2_with fail
      refine (contains_any x.called (Rd.mk_ HCW1.out.mk_ _ _ (fm_strs op) HOP.out)).mono ?_
      rintro e w' ⟨rfl, rfl⟩
      rcases hc : op.any (eqS · x.called) with _ | _
      · obtain ⟨b, vs, rfl, hbl, _, hvs, hcell⟩ := HATC.out i hi
        obtain ⟨c, hcd⟩ : ∃ c, c = d.chors[i] := ⟨_, rfl⟩
        have hsm := hd _ (List.getElem_mem hi)
        have hF := HF.out
        unfold callG at hF
        rw [← HK.out, if_neg (by omega), if_neg (by rw [hc]; exact Bool.false_ne_true), Int.toNat_natCast, List.getElem?_eq_getElem hi] at hF
        rw [← hcd] at hvs hsm hF
        clear hcd hc
        obtain ⟨s1, hs1⟩ : ∃ s1 : MkS, s1 = ⟨s.flows ++ c.flows.map (flowF (p ++ x.id ++ dotS) (x.maps.map (chainF ms))), s.n, if (c.items.filter (fun y => y.kind == 2)).length ≠ 1 then wrongF s.e 9 else s.e⟩ := ⟨_, rfl⟩
        simp only at hF
        rw [← hs1] at hF
        obtain ⟨vP', vF', vI', vS', rfl, hPc, hFc, hIc, hSc⟩ := rd_chorC.1 hvs
        obtain ⟨AP', cP', xP', rfl, _, _⟩ := rd_sl.1 hPc
        obtain ⟨AF', cF', xF', rfl, _, _⟩ := rd_sl.1 hFc
        obtain ⟨AI', cI', xI', rfl, _, _⟩ := rd_sl.1 hIc
        obtain ⟨AS', cS', xS', rfl, _, _⟩ := rd_sl.1 hSc
        have hb01 : Below w0.heap.size w0 w1 := HB0.out.trans HCW1.out.mk_.to_below
        have e0 : w1.cell? ⟨b, i * 5, none⟩ = some (.string c.id) := (hb01.cell (p := ⟨b, i * 5, none⟩) hbl).trans (hcell 0 (by omega))
        have e1 : w1.cell? ⟨b, i * 5 + 1, none⟩ = some (.slice AP' c.parts.length cP') := (hb01.cell (p := ⟨b, i * 5 + 1, none⟩) hbl).trans (hcell 1 (by omega))
        have e2 : w1.cell? ⟨b, i * 5 + 2, none⟩ = some (.slice AF' c.flows.length cF') := (hb01.cell (p := ⟨b, i * 5 + 2, none⟩) hbl).trans (hcell 2 (by omega))
        have e3 : w1.cell? ⟨b, i * 5 + 3, none⟩ = some (.slice AI' c.items.length cI') := (hb01.cell (p := ⟨b, i * 5 + 3, none⟩) hbl).trans (hcell 3 (by omega))
        have e4 : w1.cell? ⟨b, i * 5 + 4, none⟩ = some (.slice AS' c.seqs.length cS') := (hb01.cell (p := ⟨b, i * 5 + 4, none⟩) hbl).trans (hcell 4 (by omega))
        obtain ⟨vFl1, m0, m1, m2, m3, m4, hml1⟩ := HST1.out.cells
        obtain ⟨q, hq⟩ : ∃ q, q = p ++ x.id ++ dotS := ⟨_, rfl⟩
        obtain ⟨al, hal⟩ : ∃ al, al = x.maps.map (chainF ms) := ⟨_, rfl⟩
        have hall : al.length = x.maps.length := by rw [hal]; simp
        have hqs : q.size ≤ p.size + 1001 := by rw [hq]; simp only [ByteArray.size_append]; have : dotS.size = 1 := rfl; omega
        rw [← hq, ← hal] at hF hs1
        obtain ⟨its, s2, hit, hy, hs⟩ : ∃ its s2, itemsF d f q al (op ++ [x.called]) c.items s1 = some (its, s2) ∧ (⟨7, p ++ x.id, ⟨#[]⟩, [], [], false, ⟨#[]⟩, [], its, c.seqs.map (seqF q)⟩ : ItemD) = y ∧ s2 = s' := by
          revert hF
          rcases itemsF d f q al (op ++ [x.called]) c.items s1 with _ | ⟨its, s2⟩
          · intro hF; cases hF
          · intro hF
            simp only at hF
            injection hF with hF
            injection hF with h1 h2
            exact ⟨its, s2, rfl, h1, h2⟩
        have hgr := (itemsF_grows d f _ _ _ _ _ _ _ hit).2
        have hfb : s.flows.length + c.flows.length ≤ 1000000 := by
          rw [hs, hs1] at hgr
          simp at hgr
          omega
        have HIT := Lib.hid hit
        have HS1 := Lib.hid hs1
        have HY := Lib.hid hy
        have HS := Lib.hid hs
        have HFC := Lib.hid hFc
        have HIC := Lib.hid hIc
        have HSC := Lib.hid hSc
        have HSM := Lib.hid hsm
        have HQ := Lib.hid hq
        have HAL := Lib.hid hal
        have HALL := Lib.hid hall
        have HB01 := Lib.hid hb01
        clear hF hPc hFc hIc hSc hvs hcell hsm hq hal hb01 m0 m2 m3 m4 x6 hall hgr hit hs1 hy hs
        go_upto_region 10 with fail
        obtain ⟨V1, hV1⟩ : ∃ V, V = w1.alloc (.cells #[.string c.id, .slice AP' c.parts.length cP', .slice AF' c.flows.length cF', .slice AI' c.items.length cI', .slice AS' c.seqs.length cS'] 28) := ⟨_, rfl⟩
        have hbV : Below w1.heap.size w1 V1 := by rw [hV1]; exact (Below.refl _ _).alloc (Nat.le_refl _) _
        have hB13 : Blk V1 w1.heap.size 28 #[.string c.id, .slice AP' c.parts.length cP', .slice AF' c.flows.length cF', .slice AI' c.items.length cI', .slice AS' c.seqs.length cS'] := by rw [hV1]; exact Blk.new _ _ _
        rw [← hV1]
        have hszB1 : w0.heap.size ≤ w1.heap.size := by have := HCW1.out.mk_.size; omega
        have hmkV : Mk w0.heap.size w1 V1 := Mk.of_below hbV hszB1
        have hcwV := HCW1.out.step hmkV
        have hstV := HST1.out.below hbV
        have g1 : V1.cell? ⟨w.heap.size, 1, none⟩ = some (.string x.id) := hcwV.b7.cell 1
        have g7 : V1.cell? ⟨w.heap.size, 7, none⟩ = some vMp := hcwV.b7.cell 7
        have hgV := hcwV.b7.lt
        have HCWV := Lib.hid hcwV
        have HSTV := Lib.hid hstV
        have HB13 := Lib.hid hB13
        have hq1 : ∀ W, (Op.stringOp .add p x.id).run Try.prog W = .ok (.string (p ++ x.id)) W := fun W => run_string_add_sum W _ _ (by omega)
        have hq2 : ∀ W, (Op.stringOp .add (p ++ x.id) ⟨#[46]⟩).run Try.prog W = .ok (.string (p ++ x.id ++ ⟨#[46]⟩)) W := fun W => run_string_add_sum W _ _ (by simp only [ByteArray.size_append]; have : (ByteArray.mk #[46]).size = 1 := rfl; omega)
        have hchain : Hid (∀ U, Below V1.heap.size V1 U → Calls Try.prog 82 #[vMp, vms] U fun e w' => ∃ r, e = .returned r ∧ Rd w' (mapsD al) r ∧ Below U.heap.size U w') := fun U hb => by
          have hm : Mk w0.heap.size w U := HCWV.out.mk_.below hb hsz0
          have := chain_any (Rd.mk_ hm _ _ (fm_maps _) HM.out) hml (Rd.mk_ hm _ _ (fm_maps _) HMS.out)
          rw [← HAL.out] at this
          exact this
        generalize hg13 : w1.heap.size = g13 at *
        clear hV1 hbV hB13 hmkV hcwV hstV m1 e0 e1 e2 e3 e4 hg13
        go_region_held3 (fun w' => w'.cell? ⟨w.heap.size, 1, none⟩ = some (.string x.id) ∧ w'.cell? ⟨w.heap.size, 7, none⟩ = some vMp)
          (first | go_keep | (go_split_ands; refine ⟨?_, ?_⟩ <;> (exact (hb3.cell (by simp; omega)).trans (by assumption))))
          ((go_at_call 82; refine (hchain.out _ ((Below.refl _ _).drew)).mono ?_; rintro e w3 ⟨r3, rfl, hal3, hb3⟩))
        all_goals
          have hbV3 : Below V1.heap.size V1 w3 := ((Below.refl _ _).drew).trans hb3
          have hcx : CallX w0.heap.size w (c7v x vP vF vMp vI vS) (c11v (p ++ x.id) (.slice none 0 0) (.slice none 0 0)) g13 #[.string c.id, .slice AP' c.parts.length cP', .slice AF' c.flows.length cF', .slice AI' c.items.length cI', .slice AS' c.seqs.length cS'] al r3 m vM (.slice (some ⟨b, 0, none⟩) d.chors.length cC) s w3 := by
            have hsV := HCWV.out.mk_.size
            have hm3 : Mk w0.heap.size V1 w3 := Mk.of_below hbV3 (by omega)
            exact ⟨HCWV.out.step hm3, HB13.out.mk_ hm3 (by decide) (by decide), hal3, HSTV.out.below hbV3⟩
          have f2 : w3.cell? ⟨g13, 2, none⟩ = some (.slice AF' c.flows.length cF') := hcx.b13.cell 2
          obtain ⟨A3, k3, x3, rfl, _, _⟩ := rd_sl.1 hal3
          have HCX := Lib.hid hcx
          clear hcx hbV3 hal3 hb3 g1 g7 hchain hgV
          clear hq1 hq2
          have hqid : p ++ x.id ++ ⟨#[46]⟩ = q := HQ.out.symm
          have hl3 : al.length ≤ 1000000 := by have := HALL.out; omega
          rw [hqid]
          clear hqid
          go_wp2_with fail
          go_loopw [67] (fun iv wr => InFl w0.heap.size w (c7v x vP vF vMp vI vS) (c11v (p ++ x.id) (.slice none 0 0) (.slice none 0 0)) g13 #[.string c.id, .slice AP' c.parts.length cP', .slice AF' c.flows.length cF', .slice AI' c.items.length cI', .slice AS' c.seqs.length cS'] al (.slice A3 al.length k3) m vM (.slice (some ⟨b, 0, none⟩) d.chors.length cC) s q c.flows iv wr) (fun iv _ => c.flows.length - (intOf iv).toNat)
          case atStart => exact ⟨0, Nat.zero_le _, rfl, by simpa using HCX.out⟩
          case round =>
            obtain ⟨j, hj, rfl, hX⟩ := hrel
            obtain ⟨s3, hs3⟩ : ∃ s3 : MkS, s3 = ⟨s.flows ++ (c.flows.take j).map (flowF q al), s.n, s.e⟩ := ⟨_, rfl⟩
            have hs3l : s3.flows.length = s.flows.length + j := by rw [hs3]; simp; omega
            rw [← hs3] at hX
            have HS3 := Lib.hid hs3
            have HS3L := Lib.hid hs3l
            have hs3b : s3.flows.length ≤ s.flows.length + c.flows.length := by omega
            clear hs3 hs3l
            have HX := Lib.hid hX
            have hszr := hX.lt
            have hszr2 := hX.st.cells.choose_spec.2.2.2.2.2
            clear hX
            by_cases hlt : j < c.flows.length
            · obtain ⟨AFb, cFb, hvF, _, _, hatF⟩ := rd_at flowC_len HFC.out
              injection hvF with ea _ eb
              subst ea
              subst eb
              obtain ⟨bF, vs, rfl, hbFl, _, hvs, hcell⟩ := hatF j hlt
              obtain ⟨fl, hfl⟩ : ∃ fl, fl = c.flows[j] := ⟨_, rfl⟩
              have hst : (c.flows.take (j + 1)).map (flowF q al) = (c.flows.take j).map (flowF q al) ++ [flowF q al fl] := by
                rw [List.take_succ_eq_append_getElem hlt, List.map_append, hfl]
                rfl
              have hflid : fl.id.size ≤ 1000 := by rw [hfl]; exact HSM.out.ids _ (List.getElem_mem hlt)
              rw [← hfl] at hvs
              obtain rfl := rd_flowC hvs
              have hb0r : Below w0.heap.size w0 wr := HB0.out.trans HX.out.cw.mk_.to_below
              have e0 : wr.cell? ⟨bF, j * 4, none⟩ = some (.string fl.id) := (hb0r.cell (p := ⟨bF, j * 4, none⟩) hbFl).trans (hcell 0 (by omega))
              have e1 : wr.cell? ⟨bF, j * 4 + 1, none⟩ = some (.string fl.src) := (hb0r.cell (p := ⟨bF, j * 4 + 1, none⟩) hbFl).trans (hcell 1 (by omega))
              have e2 : wr.cell? ⟨bF, j * 4 + 2, none⟩ = some (.string fl.dst) := (hb0r.cell (p := ⟨bF, j * 4 + 2, none⟩) hbFl).trans (hcell 2 (by omega))
              have e3 : wr.cell? ⟨bF, j * 4 + 3, none⟩ = some (.string fl.msg) := (hb0r.cell (p := ⟨bF, j * 4 + 3, none⟩) hbFl).trans (hcell 3 (by omega))
              have HST2 := Lib.hid hst
              clear hvs hfl hcell hatF hst hb0r
              go_upto_region 14 with fail
              obtain ⟨V, hV⟩ : ∃ V, V = wr.alloc (.cells #[.string fl.id, .string fl.src, .string fl.dst, .string fl.msg] 40) := ⟨_, rfl⟩
              have hbrV : Below wr.heap.size wr V := by rw [hV]; exact (Below.refl _ _).alloc (Nat.le_refl _) _
              have hXV := HX.out.below hbrV hsz0
              have hBF : Blk V wr.heap.size 40 #[.string fl.id, .string fl.src, .string fl.dst, .string fl.msg] := by rw [hV]; exact Blk.new _ _ _
              obtain ⟨⟨vF2, hBm, hO2⟩, hBB⟩ := hXV.st
              have hgfo : ¬ wr.heap.size < wr.heap.size := Nat.lt_irrefl _
              have hO2r : Hid (∀ g, vF2.ownBlock = some g → g < wr.heap.size) := by
                obtain ⟨⟨vF3, hBm3, hO3⟩, _⟩ := HX.out.st
                have e : vF3 = vF2 := by
                  have h1 := hBm.cell 2
                  have h2 := (hBm3.below hbrV hBm3.lt).cell 2
                  rw [h1] at h2
                  exact (Option.some.inj h2).symm
                subst e
                exact fun g hg => (hO3.lt g hg).2
              rw [← hV]
              have hmkV : Mk w0.heap.size wr V := Mk.of_below hbrV (by omega)
              have hszV := hbrV.size
              have HAR : Hid (∀ U, Below V.heap.size V U → Rd U (mapsD al) (.slice A3 al.length k3)) := fun U hb => Rd.below hb _ _ hXV.al_
              have HBM := Lib.hid hBm
              have HBF := Lib.hid hBF
              have HO2 := Lib.hid hO2
              have HXV := Lib.hid hXV
              generalize hgF : wr.heap.size = gF at *
              have HGF : Hid (vF2.ownBlock ≠ some gF) := fun h1 => Nat.lt_irrefl _ (hO2r.out gF h1)
              clear hV hbrV hXV hBF hBm hO2 e0 e1 e2 e3
              have hqf : ∀ W, (Op.stringOp .add q fl.id).run Try.prog W = .ok (.string (q ++ fl.id)) W := fun W => run_string_add_sum W _ _ (by omega)
              refine wp_region_HT 24 (fun V' => Blk V' m 108 (mkC vM (.slice (some ⟨b, 0, none⟩) d.chors.length cC) vF2 s3.n s3.e) ∧ Blk V' gF 40 #[.string fl.id, .string fl.src, .string fl.dst, .string fl.msg]) (by kernel_rfl) (by decide) (⟨HBM.out, HBF.out⟩) (fun hHeld => ?_)
              refine ht_take 0 (v := ?vf_1) rfl (by kernel_rfl) (fun _ _ _ h => h) (Or.inl ⟨by rfl, ?hf_1⟩) hHeld ?rf_1
              case hf_1 => ((intro W hSw; have y0 : W.cell? ⟨m, 2, none⟩ = some vF2 := hSw.1.cell 2; have y1 : W.cell? ⟨gF, 0, none⟩ = some (.string fl.id) := hSw.2.cell 0; have y2 : W.cell? ⟨gF, 1, none⟩ = some (.string fl.src) := hSw.2.cell 1; have y3 : W.cell? ⟨gF, 2, none⟩ = some (.string fl.dst) := hSw.2.cell 2; have y4 : W.cell? ⟨gF, 3, none⟩ = some (.string fl.msg) := hSw.2.cell 3; go_simp); (try (with_reducible rfl)))
              try simp only [Act.put, List.setIfInBounds_toArray, List.set_cons_zero, List.set_cons_succ]
              refine ht_take 1 (v := ?vf_2) rfl (by kernel_rfl) (fun _ _ _ h => h) (Or.inl ⟨by rfl, ?hf_2⟩) hHeld ?rf_2
              case hf_2 => ((intro W hSw; have y0 : W.cell? ⟨m, 2, none⟩ = some vF2 := hSw.1.cell 2; have y1 : W.cell? ⟨gF, 0, none⟩ = some (.string fl.id) := hSw.2.cell 0; have y2 : W.cell? ⟨gF, 1, none⟩ = some (.string fl.src) := hSw.2.cell 1; have y3 : W.cell? ⟨gF, 2, none⟩ = some (.string fl.dst) := hSw.2.cell 2; have y4 : W.cell? ⟨gF, 3, none⟩ = some (.string fl.msg) := hSw.2.cell 3; go_simp); (try (with_reducible rfl)))
              try simp only [Act.put, List.setIfInBounds_toArray, List.set_cons_zero, List.set_cons_succ]
              refine ht_take 2 (v := ?vf_3) rfl (by kernel_rfl) (fun _ _ _ h => h) (Or.inl ⟨by rfl, ?hf_3⟩) hHeld ?rf_3
              case hf_3 => ((intro W hSw; have y0 : W.cell? ⟨m, 2, none⟩ = some vF2 := hSw.1.cell 2; have y1 : W.cell? ⟨gF, 0, none⟩ = some (.string fl.id) := hSw.2.cell 0; have y2 : W.cell? ⟨gF, 1, none⟩ = some (.string fl.src) := hSw.2.cell 1; have y3 : W.cell? ⟨gF, 2, none⟩ = some (.string fl.dst) := hSw.2.cell 2; have y4 : W.cell? ⟨gF, 3, none⟩ = some (.string fl.msg) := hSw.2.cell 3; go_simp); (try (with_reducible rfl)))
              try simp only [Act.put, List.setIfInBounds_toArray, List.set_cons_zero, List.set_cons_succ]
              refine ht_take 3 (v := ?vf_4) rfl (by kernel_rfl) (fun _ _ _ h => h) (Or.inl ⟨by rfl, ?hf_4⟩) hHeld ?rf_4
              case hf_4 => ((intro W hSw; have y0 : W.cell? ⟨m, 2, none⟩ = some vF2 := hSw.1.cell 2; have y1 : W.cell? ⟨gF, 0, none⟩ = some (.string fl.id) := hSw.2.cell 0; have y2 : W.cell? ⟨gF, 1, none⟩ = some (.string fl.src) := hSw.2.cell 1; have y3 : W.cell? ⟨gF, 2, none⟩ = some (.string fl.dst) := hSw.2.cell 2; have y4 : W.cell? ⟨gF, 3, none⟩ = some (.string fl.msg) := hSw.2.cell 3; go_simp); (try (with_reducible rfl)))
              try simp only [Act.put, List.setIfInBounds_toArray, List.set_cons_zero, List.set_cons_succ]
              refine ht_take 4 (v := ?vf_5) rfl (by kernel_rfl) (fun _ _ _ h => h) (Or.inl ⟨by rfl, ?hf_5⟩) hHeld ?rf_5
              case hf_5 => ((intro W hSw; have y0 : W.cell? ⟨m, 2, none⟩ = some vF2 := hSw.1.cell 2; have y1 : W.cell? ⟨gF, 0, none⟩ = some (.string fl.id) := hSw.2.cell 0; have y2 : W.cell? ⟨gF, 1, none⟩ = some (.string fl.src) := hSw.2.cell 1; have y3 : W.cell? ⟨gF, 2, none⟩ = some (.string fl.dst) := hSw.2.cell 2; have y4 : W.cell? ⟨gF, 3, none⟩ = some (.string fl.msg) := hSw.2.cell 3; go_simp); (try (with_reducible rfl)))
              try simp only [Act.put, List.setIfInBounds_toArray, List.set_cons_zero, List.set_cons_succ]
              refine ht_take 5 (v := ?vf_6) rfl (by kernel_rfl) (fun _ _ _ h => h) (Or.inl ⟨by rfl, ?hf_6⟩) hHeld ?rf_6
              case hf_6 => ((intro W hSw; have y0 : W.cell? ⟨m, 2, none⟩ = some vF2 := hSw.1.cell 2; have y1 : W.cell? ⟨gF, 0, none⟩ = some (.string fl.id) := hSw.2.cell 0; have y2 : W.cell? ⟨gF, 1, none⟩ = some (.string fl.src) := hSw.2.cell 1; have y3 : W.cell? ⟨gF, 2, none⟩ = some (.string fl.dst) := hSw.2.cell 2; have y4 : W.cell? ⟨gF, 3, none⟩ = some (.string fl.msg) := hSw.2.cell 3; go_simp); (try (with_reducible rfl)))
              try simp only [Act.put, List.setIfInBounds_toArray, List.set_cons_zero, List.set_cons_succ]
              refine ht_take 6 (v := ?vf_7) rfl (by kernel_rfl) (fun _ _ _ h => h) (Or.inl ⟨by rfl, ?hf_7⟩) hHeld ?rf_7
              case hf_7 => ((intro W hSw; have y0 : W.cell? ⟨m, 2, none⟩ = some vF2 := hSw.1.cell 2; have y1 : W.cell? ⟨gF, 0, none⟩ = some (.string fl.id) := hSw.2.cell 0; have y2 : W.cell? ⟨gF, 1, none⟩ = some (.string fl.src) := hSw.2.cell 1; have y3 : W.cell? ⟨gF, 2, none⟩ = some (.string fl.dst) := hSw.2.cell 2; have y4 : W.cell? ⟨gF, 3, none⟩ = some (.string fl.msg) := hSw.2.cell 3; go_simp); (try (with_reducible rfl)))
              try simp only [Act.put, List.setIfInBounds_toArray, List.set_cons_zero, List.set_cons_succ]
              refine ht_take 7 (v := ?vf_8) rfl (by kernel_rfl) (fun _ _ _ h => h) (Or.inl ⟨by rfl, ?hf_8⟩) hHeld ?rf_8
              case hf_8 => ((intro W hSw; have y0 : W.cell? ⟨m, 2, none⟩ = some vF2 := hSw.1.cell 2; have y1 : W.cell? ⟨gF, 0, none⟩ = some (.string fl.id) := hSw.2.cell 0; have y2 : W.cell? ⟨gF, 1, none⟩ = some (.string fl.src) := hSw.2.cell 1; have y3 : W.cell? ⟨gF, 2, none⟩ = some (.string fl.dst) := hSw.2.cell 2; have y4 : W.cell? ⟨gF, 3, none⟩ = some (.string fl.msg) := hSw.2.cell 3; go_simp); (try (with_reducible rfl)))
              try simp only [Act.put, List.setIfInBounds_toArray, List.set_cons_zero, List.set_cons_succ]
              refine ht_take 8 (v := ?vf_9) rfl (by kernel_rfl) (fun _ _ _ h => h) (Or.inl ⟨by rfl, ?hf_9⟩) hHeld ?rf_9
              case hf_9 => ((intro W hSw; have y0 : W.cell? ⟨m, 2, none⟩ = some vF2 := hSw.1.cell 2; have y1 : W.cell? ⟨gF, 0, none⟩ = some (.string fl.id) := hSw.2.cell 0; have y2 : W.cell? ⟨gF, 1, none⟩ = some (.string fl.src) := hSw.2.cell 1; have y3 : W.cell? ⟨gF, 2, none⟩ = some (.string fl.dst) := hSw.2.cell 2; have y4 : W.cell? ⟨gF, 3, none⟩ = some (.string fl.msg) := hSw.2.cell 3; go_simp); (try (with_reducible rfl)))
              try simp only [Act.put, List.setIfInBounds_toArray, List.set_cons_zero, List.set_cons_succ]
              refine ht_take 9 (v := ?vf_10) rfl (by kernel_rfl) (fun _ _ _ h => h) (Or.inl ⟨by rfl, ?hf_10⟩) hHeld ?rf_10
              case hf_10 => ((intro W hSw; have y0 : W.cell? ⟨m, 2, none⟩ = some vF2 := hSw.1.cell 2; have y1 : W.cell? ⟨gF, 0, none⟩ = some (.string fl.id) := hSw.2.cell 0; have y2 : W.cell? ⟨gF, 1, none⟩ = some (.string fl.src) := hSw.2.cell 1; have y3 : W.cell? ⟨gF, 2, none⟩ = some (.string fl.dst) := hSw.2.cell 2; have y4 : W.cell? ⟨gF, 3, none⟩ = some (.string fl.msg) := hSw.2.cell 3; go_simp); (try (with_reducible rfl)))
              try simp only [Act.put, List.setIfInBounds_toArray, List.set_cons_zero, List.set_cons_succ]
              refine ht_take 10 (v := ?vf_11) rfl (by kernel_rfl) (fun _ _ _ h => h) (Or.inl ⟨by rfl, ?hf_11⟩) hHeld ?rf_11
              case hf_11 => ((intro W hSw; have y0 : W.cell? ⟨m, 2, none⟩ = some vF2 := hSw.1.cell 2; have y1 : W.cell? ⟨gF, 0, none⟩ = some (.string fl.id) := hSw.2.cell 0; have y2 : W.cell? ⟨gF, 1, none⟩ = some (.string fl.src) := hSw.2.cell 1; have y3 : W.cell? ⟨gF, 2, none⟩ = some (.string fl.dst) := hSw.2.cell 2; have y4 : W.cell? ⟨gF, 3, none⟩ = some (.string fl.msg) := hSw.2.cell 3; go_simp); (try (with_reducible rfl)))
              try simp only [Act.put, List.setIfInBounds_toArray, List.set_cons_zero, List.set_cons_succ]
              refine ht_take 11 (v := ?vf_12) rfl (by kernel_rfl) (fun _ _ _ h => h) (Or.inl ⟨by rfl, ?hf_12⟩) hHeld ?rf_12
              case hf_12 => ((intro W hSw; have y0 : W.cell? ⟨m, 2, none⟩ = some vF2 := hSw.1.cell 2; have y1 : W.cell? ⟨gF, 0, none⟩ = some (.string fl.id) := hSw.2.cell 0; have y2 : W.cell? ⟨gF, 1, none⟩ = some (.string fl.src) := hSw.2.cell 1; have y3 : W.cell? ⟨gF, 2, none⟩ = some (.string fl.dst) := hSw.2.cell 2; have y4 : W.cell? ⟨gF, 3, none⟩ = some (.string fl.msg) := hSw.2.cell 3; go_simp); (try (with_reducible rfl)))
              try simp only [Act.put, List.setIfInBounds_toArray, List.set_cons_zero, List.set_cons_succ]
              refine ht_take 13 (v := ?vf_13) rfl (by kernel_rfl) (fun _ _ _ h => h) (Or.inl ⟨by rfl, ?hf_13⟩) hHeld ?rf_13
              case hf_13 => ((intro W hSw; have y0 : W.cell? ⟨m, 2, none⟩ = some vF2 := hSw.1.cell 2; have y1 : W.cell? ⟨gF, 0, none⟩ = some (.string fl.id) := hSw.2.cell 0; have y2 : W.cell? ⟨gF, 1, none⟩ = some (.string fl.src) := hSw.2.cell 1; have y3 : W.cell? ⟨gF, 2, none⟩ = some (.string fl.dst) := hSw.2.cell 2; have y4 : W.cell? ⟨gF, 3, none⟩ = some (.string fl.msg) := hSw.2.cell 3; go_simp); (try (with_reducible rfl)))
              try simp only [Act.put, List.setIfInBounds_toArray, List.set_cons_zero, List.set_cons_succ]
              refine ht_take 14 (v := ?vf_14) rfl (by kernel_rfl) (fun _ _ _ h => h) (Or.inl ⟨by rfl, ?hf_14⟩) hHeld ?rf_14
              case hf_14 => ((intro W hSw; have y0 : W.cell? ⟨m, 2, none⟩ = some vF2 := hSw.1.cell 2; have y1 : W.cell? ⟨gF, 0, none⟩ = some (.string fl.id) := hSw.2.cell 0; have y2 : W.cell? ⟨gF, 1, none⟩ = some (.string fl.src) := hSw.2.cell 1; have y3 : W.cell? ⟨gF, 2, none⟩ = some (.string fl.dst) := hSw.2.cell 2; have y4 : W.cell? ⟨gF, 3, none⟩ = some (.string fl.msg) := hSw.2.cell 3; go_simp); (try (with_reducible rfl)))
              try simp only [Act.put, List.setIfInBounds_toArray, List.set_cons_zero, List.set_cons_succ]
              refine ht_take 15 (v := ?vf_15) rfl (by kernel_rfl) (fun _ _ _ h => h) (Or.inl ⟨by rfl, ?hf_15⟩) hHeld ?rf_15
              case hf_15 => ((intro W hSw; have y0 : W.cell? ⟨m, 2, none⟩ = some vF2 := hSw.1.cell 2; have y1 : W.cell? ⟨gF, 0, none⟩ = some (.string fl.id) := hSw.2.cell 0; have y2 : W.cell? ⟨gF, 1, none⟩ = some (.string fl.src) := hSw.2.cell 1; have y3 : W.cell? ⟨gF, 2, none⟩ = some (.string fl.dst) := hSw.2.cell 2; have y4 : W.cell? ⟨gF, 3, none⟩ = some (.string fl.msg) := hSw.2.cell 3; go_simp); (try (with_reducible rfl)))
              try simp only [Act.put, List.setIfInBounds_toArray, List.set_cons_zero, List.set_cons_succ]
              refine ht_take 17 (v := ?vf_16) rfl (by kernel_rfl) (fun _ _ _ h => h) (Or.inl ⟨by rfl, ?hf_16⟩) hHeld ?rf_16
              case hf_16 => ((intro W hSw; have y0 : W.cell? ⟨m, 2, none⟩ = some vF2 := hSw.1.cell 2; have y1 : W.cell? ⟨gF, 0, none⟩ = some (.string fl.id) := hSw.2.cell 0; have y2 : W.cell? ⟨gF, 1, none⟩ = some (.string fl.src) := hSw.2.cell 1; have y3 : W.cell? ⟨gF, 2, none⟩ = some (.string fl.dst) := hSw.2.cell 2; have y4 : W.cell? ⟨gF, 3, none⟩ = some (.string fl.msg) := hSw.2.cell 3; go_simp); (try (with_reducible rfl)))
              try simp only [Act.put, List.setIfInBounds_toArray, List.set_cons_zero, List.set_cons_succ]
              refine ht_take 18 (v := ?vf_17) rfl (by kernel_rfl) (fun _ _ _ h => h) (Or.inl ⟨by rfl, ?hf_17⟩) hHeld ?rf_17
              case hf_17 => ((intro W hSw; have y0 : W.cell? ⟨m, 2, none⟩ = some vF2 := hSw.1.cell 2; have y1 : W.cell? ⟨gF, 0, none⟩ = some (.string fl.id) := hSw.2.cell 0; have y2 : W.cell? ⟨gF, 1, none⟩ = some (.string fl.src) := hSw.2.cell 1; have y3 : W.cell? ⟨gF, 2, none⟩ = some (.string fl.dst) := hSw.2.cell 2; have y4 : W.cell? ⟨gF, 3, none⟩ = some (.string fl.msg) := hSw.2.cell 3; go_simp); (try (with_reducible rfl)))
              try simp only [Act.put, List.setIfInBounds_toArray, List.set_cons_zero, List.set_cons_succ]
              refine ht_one 12 rfl (by kernel_rfl) (fun K hK => ?_)
              go_simp
              refine (who_any _ (HAR.out _ (Below.refl _ _).drew)).mono ?_
              rintro e w4 ⟨rfl, hb4⟩
              have HB4 := Lib.hid (((Below.refl V.heap.size V).drew).trans hb4)
              go_wp2_with fail
              refine hK.out _ _ (⟨hHeld.1.below hb4 hHeld.1.lt, hHeld.2.below hb4 hHeld.2.lt⟩) (fun hHeld => ?_)
              clear hK K
              try simp only [Act.put, List.setIfInBounds_toArray, List.set_cons_zero, List.set_cons_succ]
              refine ht_one 16 rfl (by kernel_rfl) (fun K hK => ?_)
              go_simp
              refine (who_any _ (HAR.out _ HB4.out)).mono ?_
              rintro e w5 ⟨rfl, hb5⟩
              have HB5 := Lib.hid (below_step HB4.out hb5)
              go_wp2_with fail
              refine hK.out _ _ (⟨hHeld.1.below hb5 hHeld.1.lt, hHeld.2.below hb5 hHeld.2.lt⟩) (fun hHeld => ?_)
              clear hK K
              try simp only [Act.put, List.setIfInBounds_toArray, List.set_cons_zero, List.set_cons_succ]
              refine ht_take 19 (v := ?vf_18) rfl (by kernel_rfl) (fun _ _ _ h => h) (Or.inl ⟨by rfl, ?hf_18⟩) hHeld ?rf_18
              case hf_18 => ((intro W hSw; have y0 : W.cell? ⟨m, 2, none⟩ = some vF2 := hSw.1.cell 2; have y1 : W.cell? ⟨gF, 0, none⟩ = some (.string fl.id) := hSw.2.cell 0; have y2 : W.cell? ⟨gF, 1, none⟩ = some (.string fl.src) := hSw.2.cell 1; have y3 : W.cell? ⟨gF, 2, none⟩ = some (.string fl.dst) := hSw.2.cell 2; have y4 : W.cell? ⟨gF, 3, none⟩ = some (.string fl.msg) := hSw.2.cell 3; go_simp); (try (with_reducible rfl)))
              try simp only [Act.put, List.setIfInBounds_toArray, List.set_cons_zero, List.set_cons_succ]
              refine ht_one 20 rfl (by kernel_rfl) (fun K hK => ?_)
              go_simp
              refine hK.out _ _ (⟨hHeld.1.alloc _, hHeld.2.alloc _⟩) (fun hHeld => ?_)
              clear hK K
              try simp only [Act.put, List.setIfInBounds_toArray, List.set_cons_zero, List.set_cons_succ]
              refine ht_one 21 rfl (by kernel_rfl) (fun K hK => ?_)
              refine step_append_lies _ (by rfl) (.tmp 75) (.tmp 91) _ (by rfl) w0.heap.size 40 i0 _ 4 64 Try.underlying24 hi0 hz0 hz1 hz2 rfl (by omega) vF2 _ _ (by rfl) ((own_below HO2.out HB5.out).alloc _) ⟨w5.heap.size, 0, none⟩ 1 1 [.string (q ++ fl.id), .string (whoF al fl.src), .string (whoF al fl.dst), .string fl.msg] (by rfl) (by rfl) (World.news_of_block (cs := #[.string (q ++ fl.id), .string (whoF al fl.src), .string (whoF al fl.dst), .string fl.msg]) (t := 40) (fr := (0, 0)) (heap_alloc_new w5 _)) (by simp [Value.oneCell']) (by omega) (by unfold maxLen; have := HS3L.out; omega) (by have := HS3L.out; omega) (by have := HB5.out.size; simp; omega) (w5.heap.size + 1) (by simp) ?_
              intro gA capA w6 hown6 hgrow6 hat6 hlt6
              refine hK.out _ _ (⟨hHeld.1.grown hgrow6 (Ne.symm (blk_own_ne (own_below HO2.out HB5.out) (HBM.out.below HB5.out HBM.out.lt) (by decide))), hHeld.2.grown hgrow6 (Ne.symm HGF.out)⟩) (fun hHeld => ?_)
              clear hK K
              try simp only [Act.put, List.setIfInBounds_toArray, List.set_cons_zero, List.set_cons_succ]
              refine ht_take 22 (v := ?vf_19) rfl (by kernel_rfl) (fun _ _ _ h => h) (Or.inl ⟨by rfl, ?hf_19⟩) hHeld ?rf_19
              case hf_19 => ((intro W hSw; have y0 : W.cell? ⟨m, 2, none⟩ = some vF2 := hSw.1.cell 2; have y1 : W.cell? ⟨gF, 0, none⟩ = some (.string fl.id) := hSw.2.cell 0; have y2 : W.cell? ⟨gF, 1, none⟩ = some (.string fl.src) := hSw.2.cell 1; have y3 : W.cell? ⟨gF, 2, none⟩ = some (.string fl.dst) := hSw.2.cell 2; have y4 : W.cell? ⟨gF, 3, none⟩ = some (.string fl.msg) := hSw.2.cell 3; go_simp); (try (with_reducible rfl)))
              try simp only [Act.put, List.setIfInBounds_toArray, List.set_cons_zero, List.set_cons_succ]
              refine ht_take 23 (v := ?vf_20) rfl (by kernel_rfl) (fun _ _ _ h => h) (Or.inl ⟨by rfl, ?hf_20⟩) hHeld ?rf_20
              case hf_20 => ((intro W hSw; have y0 : W.cell? ⟨m, 2, none⟩ = some vF2 := hSw.1.cell 2; have y1 : W.cell? ⟨gF, 0, none⟩ = some (.string fl.id) := hSw.2.cell 0; have y2 : W.cell? ⟨gF, 1, none⟩ = some (.string fl.src) := hSw.2.cell 1; have y3 : W.cell? ⟨gF, 2, none⟩ = some (.string fl.dst) := hSw.2.cell 2; have y4 : W.cell? ⟨gF, 3, none⟩ = some (.string fl.msg) := hSw.2.cell 3; go_simp); (try (with_reducible rfl)))
              try simp only [Act.put, List.setIfInBounds_toArray, List.set_cons_zero, List.set_cons_succ]
              refine ht_done (by kernel_rfl) rfl ?_
              have m2 : w6.cell? ⟨m, 2, none⟩ = some vF2 := hHeld.1.cell 2
              have fm2 := hHeld.1.frozen 2
              go_wp2_with fail
              go_roundw
              case rel =>
                obtain ⟨r1, r2⟩ := flow_step (fl := flowF q al fl) (HBM.out.below HB5.out HBM.out.lt) hBB (by have := HB5.out.size; omega) (own_below HO2.out HB5.out) hown6 hgrow6 hat6
                refine ⟨j + 1, by omega, by go_num, ?_⟩
                have e : (⟨s3.flows ++ [flowF q al fl], s3.n, s3.e⟩ : MkS) = ⟨s.flows ++ (c.flows.take (j + 1)).map (flowF q al), s.n, s.e⟩ := by
                  rw [HS3.out, HST2.out]
                  simp
                rw [e] at r1
                exact HXV.out.step ((Mk.of_below HB5.out (by omega)).trans r2) r1
              case measure => simp [intOf]; omega
            · have hX2 := HX.out
              have hjl : j = c.flows.length := by omega
              rw [HS3.out, List.take_of_length_le (by omega)] at hX2
              have HX2 := Lib.hid hX2
              have f3 : wr.cell? ⟨g13, 3, none⟩ = some (.slice AI' c.items.length cI') := hX2.b13.cell 3
              have hIb : c.items.length ≤ 1000000 := HSM.out.nitems
              clear hX2 HX hjl
              go_wp2_with fail
              go_loopw [18, 99] (fun nv iv wr => InEn w0.heap.size w (c7v x vP vF vMp vI vS) (c11v (p ++ x.id) (.slice none 0 0) (.slice none 0 0)) g13 #[.string c.id, .slice AP' c.parts.length cP', .slice AF' c.flows.length cF', .slice AI' c.items.length cI', .slice AS' c.seqs.length cS'] al (.slice A3 al.length k3) m vM (.slice (some ⟨b, 0, none⟩) d.chors.length cC) ⟨s.flows ++ c.flows.map (flowF q al), s.n, s.e⟩ c.items nv iv wr) (fun _ iv _ => c.items.length - (intOf iv).toNat)
              case atStart => exact ⟨0, Nat.zero_le _, rfl, rfl, HX2.out⟩
              case round =>
                obtain ⟨j, hj, rfl, rfl, hX⟩ := hrel
                have HX := Lib.hid hX
                clear hX
                by_cases hlt : j < c.items.length
                · obtain ⟨AIb, cIb, hvI, _, _, hatI⟩ := rd_at itemC_len HIC.out
                  injection hvI with ea _ eb
                  subst ea
                  subst eb
                  obtain ⟨bI, vs, rfl, hbIl, _, hvs, hcell⟩ := hatI j hlt
                  obtain ⟨y, hyy⟩ : ∃ y, y = c.items[j] := ⟨_, rfl⟩
                  have hst : ((c.items.take (j + 1)).filter fun y => y.kind == 2).length = ((c.items.take j).filter fun y => y.kind == 2).length + if (y.kind == 2) = true then 1 else 0 := by
                    rw [List.take_succ_eq_append_getElem hlt, List.filter_append, ← hyy]
                    cases hk : (y.kind == 2) <;> simp [hk]
                  have hcl : ((c.items.take j).filter fun y => y.kind == 2).length ≤ j := Nat.le_trans (List.length_filter_le _ _) (List.length_take_le _ _)
                  rw [← hyy] at hvs
                  obtain ⟨v3, v4, v7, v8, v9, rfl, h3, h4, h7, h8, h9⟩ := rd_itemC.1 hvs
                  obtain ⟨Ay3, cy3, _, rfl, _, _⟩ := rd_sl.1 h3
                  obtain ⟨Ay4, cy4, _, rfl, _, _⟩ := rd_sl.1 h4
                  obtain ⟨Ay7, cy7, _, rfl, _, _⟩ := rd_sl.1 h7
                  obtain ⟨Ay8, cy8, _, rfl, _, _⟩ := rd_sl.1 h8
                  obtain ⟨Ay9, cy9, _, rfl, _, _⟩ := rd_sl.1 h9
                  have hb0r : Below w0.heap.size w0 wr := HB0.out.trans HX.out.cw.mk_.to_below
                  have e0 : wr.cell? ⟨bI, j * 10, none⟩ = some (.int .i64 y.kind) := (hb0r.cell (p := ⟨bI, j * 10, none⟩) hbIl).trans (hcell 0 (by omega))
                  have e1 : wr.cell? ⟨bI, j * 10 + 1, none⟩ = some (.string y.id) := (hb0r.cell (p := ⟨bI, j * 10 + 1, none⟩) hbIl).trans (hcell 1 (by omega))
                  have e2 : wr.cell? ⟨bI, j * 10 + 2, none⟩ = some (.string y.first) := (hb0r.cell (p := ⟨bI, j * 10 + 2, none⟩) hbIl).trans (hcell 2 (by omega))
                  have e3 : wr.cell? ⟨bI, j * 10 + 3, none⟩ = some (.slice Ay3 y.parts.length cy3) := (hb0r.cell (p := ⟨bI, j * 10 + 3, none⟩) hbIl).trans (hcell 3 (by omega))
                  have e4 : wr.cell? ⟨bI, j * 10 + 4, none⟩ = some (.slice Ay4 y.flows.length cy4) := (hb0r.cell (p := ⟨bI, j * 10 + 4, none⟩) hbIl).trans (hcell 4 (by omega))
                  have e5 : wr.cell? ⟨bI, j * 10 + 5, none⟩ = some (.bool y.loop) := (hb0r.cell (p := ⟨bI, j * 10 + 5, none⟩) hbIl).trans (hcell 5 (by omega))
                  have e6 : wr.cell? ⟨bI, j * 10 + 6, none⟩ = some (.string y.called) := (hb0r.cell (p := ⟨bI, j * 10 + 6, none⟩) hbIl).trans (hcell 6 (by omega))
                  have e7 : wr.cell? ⟨bI, j * 10 + 7, none⟩ = some (.slice Ay7 y.maps.length cy7) := (hb0r.cell (p := ⟨bI, j * 10 + 7, none⟩) hbIl).trans (hcell 7 (by omega))
                  have e8 : wr.cell? ⟨bI, j * 10 + 8, none⟩ = some (.slice Ay8 y.items.length cy8) := (hb0r.cell (p := ⟨bI, j * 10 + 8, none⟩) hbIl).trans (hcell 8 (by omega))
                  have e9 : wr.cell? ⟨bI, j * 10 + 9, none⟩ = some (.slice Ay9 y.seqs.length cy9) := (hb0r.cell (p := ⟨bI, j * 10 + 9, none⟩) hbIl).trans (hcell 9 (by omega))
                  have HST2 := Lib.hid hst
                  clear hvs hyy hcell hatI hst hb0r h3 h4 h7 h8 h9
                  obtain ⟨cn, hcn⟩ : ∃ cn, cn = ((c.items.take j).filter fun y => y.kind == 2).length := ⟨_, rfl⟩
                  rw [← hcn] at hcl HST2 ⊢
                  have HCN := Lib.hid hcn
                  clear hcn
                  rcases hk2 : (y.kind == 2) with _ | _
                  all_goals
                    rw [hk2] at HST2
                    go_wp2_with fail
                    go_roundw
                    case rel => exact ⟨j + 1, by omega, by go_num, by rw [HST2.out]; simp, HX.out.below ((Below.refl _ _).alloc (Nat.le_refl _) _) hsz0⟩
                    case measure => simp [intOf]; omega
                · have hjl : c.items.take j = c.items := List.take_of_length_le (by omega)
                  obtain ⟨cn, hcn⟩ : ∃ cn, cn = (c.items.filter fun y => y.kind == 2).length := ⟨_, rfl⟩
                  have hs1 := HS1.out
                  rw [← hcn] at hs1
                  rw [hjl, ← hcn]
                  have HS1c := Lib.hid hs1
                  clear hjl hcn hs1
                  go_upto_if 110 with fail
                  go_cut [] (fun wx => CallX w0.heap.size w (c7v x vP vF vMp vI vS) (c11v (p ++ x.id) (.slice none 0 0) (.slice none 0 0)) g13 #[.string c.id, .slice AP' c.parts.length cP', .slice AF' c.flows.length cF', .slice AI' c.items.length cI', .slice AS' c.seqs.length cS'] al (.slice A3 al.length k3) m vM (.slice (some ⟨b, 0, none⟩) d.chors.length cC) s1 wx)
                  case first => as_aux_lemma =>
                    by_cases hc1 : cn = 1
                    · have e : s1 = ⟨s.flows ++ c.flows.map (flowF q al), s.n, s.e⟩ := by rw [HS1c.out, if_neg (by omega)]
                      have hb1 : (((cn : Nat) : Int) != 1) = false := by simp; omega
                      have HX3 := HX.out
                      rw [← e] at HX3
                      have HX4 := Lib.hid HX3
                      clear HX3 e hc1
                      go_wp2_with fail
                      go_meet
                      case rel => exact HX4.out
                    · have e : s1 = wrongS ⟨s.flows ++ c.flows.map (flowF q al), s.n, s.e⟩ 9 := by rw [HS1c.out, if_pos hc1]; rfl
                      have hb1 : (((cn : Nat) : Int) != 1) = true := by simp; omega
                      have HE := Lib.hid e
                      clear e hc1
                      go_wp2_with fail
                      refine (wrong_mk 9 HX.out.st).mono ?_
                      rintro e w2 ⟨rfl, hst2, hmk2⟩
                      have hX3 := HX.out.step hmk2 hst2
                      rw [← HE.out] at hX3
                      have HX4 := Lib.hid hX3
                      clear hX3 hst2 hmk2
                      go_wp2_with fail
                      go_meet
                      case rel => exact HX4.out
                  case rest =>
                    have g3 : wc.cell? ⟨g13, 3, none⟩ = some (.slice AI' c.items.length cI') := hcut.b13.cell 3
                    have g6 : wc.cell? ⟨w.heap.size, 6, none⟩ = some (.string x.called) := hcut.cw.b7.cell 6
                    have hszc : w.heap.size + 3 ≤ wc.heap.size := by have := hcut.cw.b11.lt; omega
                    have hmkc : Mk w0.heap.size w wc := hcut.cw.mk_
                    have HX5 := Lib.hid hcut
                    have HMC := Lib.hid hmkc
                    have HOPW : Hid (∀ U, Below wc.heap.size wc U → Rd U (strsD op) vop) := fun U hb => Rd.below hb _ _ (Rd.mk_ HMC.out _ _ (fm_strs op) HOP.out)
                    have hn1 : 0 ≤ s1.n := by rw [HS1.out]; exact hn0
                    clear hcut hmkc
                    obtain ⟨j0, hj0, hy0, hy1, hy2⟩ := info_parts Try.infoClStr
                    go_upto_region 25 with fail
                    go_cut [] (fun wx => Aft25 w0.heap.size w (p ++ x.id) g13 #[.string c.id, .slice AP' c.parts.length cP', .slice AF' c.flows.length cF', .slice AI' c.items.length cI', .slice AS' c.seqs.length cS'] m vM (.slice (some ⟨b, 0, none⟩) d.chors.length cC) its s' wc.heap.size wx)
                    case first => as_aux_lemma =>
                      refine wp_region_HT 13 (fun V' => Blk V' g13 28 #[.string c.id, .slice AP' c.parts.length cP', .slice AF' c.flows.length cF', .slice AI' c.items.length cI', .slice AS' c.seqs.length cS'] ∧ Blk V' w.heap.size 33 (c7v x vP vF vMp vI vS)) (by kernel_rfl) (by decide) (⟨HX5.out.b13, HX5.out.cw.b7⟩) (fun hHeld => ?_)
                      refine ht_take 0 (v := ?vi_1) rfl (by kernel_rfl) (fun _ _ _ h => h) (Or.inl ⟨by rfl, ?hi_1⟩) hHeld ?ri_1
                      case hi_1 => ((intro W hSw; have y0 : W.cell? ⟨g13, 3, none⟩ = some (.slice AI' c.items.length cI') := hSw.1.cell 3; have y1 : W.cell? ⟨w.heap.size, 6, none⟩ = some (.string x.called) := hSw.2.cell 6; go_simp); (try (with_reducible rfl)))
                      try simp only [Act.put, List.setIfInBounds_toArray, List.set_cons_zero, List.set_cons_succ]
                      refine ht_take 1 (v := ?vi_2) rfl (by kernel_rfl) (fun _ _ _ h => h) (Or.inl ⟨by rfl, ?hi_2⟩) hHeld ?ri_2
                      case hi_2 => ((intro W hSw; have y0 : W.cell? ⟨g13, 3, none⟩ = some (.slice AI' c.items.length cI') := hSw.1.cell 3; have y1 : W.cell? ⟨w.heap.size, 6, none⟩ = some (.string x.called) := hSw.2.cell 6; go_simp); (try (with_reducible rfl)))
                      try simp only [Act.put, List.setIfInBounds_toArray, List.set_cons_zero, List.set_cons_succ]
                      refine ht_take 2 (v := ?vi_3) rfl (by kernel_rfl) (fun _ _ _ h => h) (Or.inl ⟨by rfl, ?hi_3⟩) hHeld ?ri_3
                      case hi_3 => ((intro W hSw; have y0 : W.cell? ⟨g13, 3, none⟩ = some (.slice AI' c.items.length cI') := hSw.1.cell 3; have y1 : W.cell? ⟨w.heap.size, 6, none⟩ = some (.string x.called) := hSw.2.cell 6; go_simp); (try (with_reducible rfl)))
                      try simp only [Act.put, List.setIfInBounds_toArray, List.set_cons_zero, List.set_cons_succ]
                      refine ht_take 3 (v := ?vi_4) rfl (by kernel_rfl) (fun _ _ _ h => h) (Or.inl ⟨by rfl, ?hi_4⟩) hHeld ?ri_4
                      case hi_4 => ((intro W hSw; have y0 : W.cell? ⟨g13, 3, none⟩ = some (.slice AI' c.items.length cI') := hSw.1.cell 3; have y1 : W.cell? ⟨w.heap.size, 6, none⟩ = some (.string x.called) := hSw.2.cell 6; go_simp); (try (with_reducible rfl)))
                      try simp only [Act.put, List.setIfInBounds_toArray, List.set_cons_zero, List.set_cons_succ]
                      refine ht_take 4 (v := ?vi_5) rfl (by kernel_rfl) (fun _ _ _ h => h) (Or.inl ⟨by rfl, ?hi_5⟩) hHeld ?ri_5
                      case hi_5 => ((intro W hSw; have y0 : W.cell? ⟨g13, 3, none⟩ = some (.slice AI' c.items.length cI') := hSw.1.cell 3; have y1 : W.cell? ⟨w.heap.size, 6, none⟩ = some (.string x.called) := hSw.2.cell 6; go_simp); (try (with_reducible rfl)))
                      try simp only [Act.put, List.setIfInBounds_toArray, List.set_cons_zero, List.set_cons_succ]
                      refine ht_take 5 (v := ?vi_6) rfl (by kernel_rfl) (fun _ _ _ h => h) (Or.inl ⟨by rfl, ?hi_6⟩) hHeld ?ri_6
                      case hi_6 => ((intro W hSw; have y0 : W.cell? ⟨g13, 3, none⟩ = some (.slice AI' c.items.length cI') := hSw.1.cell 3; have y1 : W.cell? ⟨w.heap.size, 6, none⟩ = some (.string x.called) := hSw.2.cell 6; go_simp); (try (with_reducible rfl)))
                      try simp only [Act.put, List.setIfInBounds_toArray, List.set_cons_zero, List.set_cons_succ]
                      refine ht_take 7 (v := ?vi_7) rfl (by kernel_rfl) (fun _ _ _ h => h) (Or.inl ⟨by rfl, ?hi_7⟩) hHeld ?ri_7
                      case hi_7 => ((intro W hSw; have y0 : W.cell? ⟨g13, 3, none⟩ = some (.slice AI' c.items.length cI') := hSw.1.cell 3; have y1 : W.cell? ⟨w.heap.size, 6, none⟩ = some (.string x.called) := hSw.2.cell 6; go_simp); (try (with_reducible rfl)))
                      try simp only [Act.put, List.setIfInBounds_toArray, List.set_cons_zero, List.set_cons_succ]
                      refine ht_take 8 (v := ?vi_8) rfl (by kernel_rfl) (fun _ _ _ h => h) (Or.inl ⟨by rfl, ?hi_8⟩) hHeld ?ri_8
                      case hi_8 => ((intro W hSw; have y0 : W.cell? ⟨g13, 3, none⟩ = some (.slice AI' c.items.length cI') := hSw.1.cell 3; have y1 : W.cell? ⟨w.heap.size, 6, none⟩ = some (.string x.called) := hSw.2.cell 6; go_simp); (try (with_reducible rfl)))
                      try simp only [Act.put, List.setIfInBounds_toArray, List.set_cons_zero, List.set_cons_succ]
                      refine wpHT_all [6, 9] (by kernel_rfl) ?_
                      refine ht_cons (i := 6) rfl (fun K hK => ?_) (ht_cons (i := 9) rfl (fun K hK => ?_) (allHT.nil))
                      · go_simp
                        refine (cloneStr_any (HOPW.out _ (by first | exact (Below.refl _ _).drew | exact ((Below.refl _ _).drew).alloc (Nat.le_refl _) _)) (by omega)).mono ?_
                        rintro e w4 ⟨vc, xc, rfl, hoc, hlc, hb4⟩
                        go_wp2_with fail
                        refine hK.out _ _ (⟨hHeld.1.below hb4 hHeld.1.lt, hHeld.2.below hb4 hHeld.2.lt⟩) (fun hHeld => ?_)
                        clear hK K
                        try simp only [Act.put, List.setIfInBounds_toArray, List.set_cons_zero, List.set_cons_succ]
                        refine ht_one 9 rfl (by kernel_rfl) (fun K hK => ?_)
                        go_simp
                        refine hK.out _ _ (⟨hHeld.1.alloc _, hHeld.2.alloc _⟩) (fun hHeld => ?_)
                        clear hK K
                        try simp only [Act.put, List.setIfInBounds_toArray, List.set_cons_zero, List.set_cons_succ]
                        refine ht_one 10 rfl (by kernel_rfl) (fun K hK => ?_)
                        refine step_append_lies _ (by rfl) (.tmp 119) (.tmp 122) _ (by rfl) _ 9 j0 _ 1 16 Try.underlying30 hj0 hy0 hy1 hy2 rfl (by omega) vc _ _ (by rfl) (hoc.alloc _) ⟨w4.heap.size, 0, none⟩ 1 1 [.string x.called] (by rfl) (by rfl) (World.news_of_block (cs := #[.string x.called]) (t := 9) (fr := (0, 0)) (heap_alloc_new w4 _)) (by simp [Value.oneCell']) (by omega) (by unfold maxLen; omega) (by omega) (by have := hb4.size; simp at this ⊢; omega) (w4.heap.size + 1) (by simp) ?_
                        intro gA capA w6 hown6 hgrow6 hat6 hlt6
                        have hb46 : Below wc.heap.size wc w4 := ((Below.refl wc.heap.size wc).drew).trans hb4
                        have hb6 : Below wc.heap.size wc w6 := (hb46.alloc hb46.size _).grown hgrow6 (by have := hb46.size; simp; omega) (fun k hk => by have := (hoc.lt k hk).1; simp at this; omega)
                        have hrd6 := rd_strs_snoc hown6 hlc
                        refine hK.out _ _ (⟨(hHeld.1.grown hgrow6 (Ne.symm (blk_own_ne (hoc.alloc _) (hHeld.1) (by decide)))), (hHeld.2.grown hgrow6 (Ne.symm (blk_own_ne (hoc.alloc _) (hHeld.2) (by decide))))⟩) (fun hHeld => ?_)
                        clear hK K
                        try simp only [Act.put, List.setIfInBounds_toArray, List.set_cons_zero, List.set_cons_succ]
                        refine ht_one 11 rfl (by kernel_rfl) (fun K hK => ?_)
                        go_simp
                        refine (HI.out w0 w6 m vM _ _ _ _ q al (op ++ [x.called]) c.items s1 s2 its (HB0.out.trans (HMC.out.to_below.trans (hb6.mono (by omega)))) HC.out HIC.out (Rd.below hb6 _ _ HX5.out.al_) hrd6 (HX5.out.st.below hb6) HIT.out HSM.out.items hIb (by omega) (by simp; omega) (by rw [HS.out]; exact hn) hn1 (by rw [HS.out]; exact hfl)).mono ?_
                        rintro e w7 ⟨v7, rfl, hrd7, hst7, hmk7⟩
                        have hsz6 := hb6.size
                        go_wp2_with fail
                        refine hK.out _ _ (⟨hHeld.1.mk_ hmk7 (by decide) (by decide), hHeld.2.mk_ hmk7 (by decide) (by decide)⟩) (fun hHeld => ?_)
                        clear hK K
                        try simp only [Act.put, List.setIfInBounds_toArray, List.set_cons_zero, List.set_cons_succ]
                        refine ht_take 12 (v := ?vi_9) rfl (by kernel_rfl) (fun _ _ _ h => h) (Or.inl ⟨by rfl, ?hi_9⟩) hHeld ?ri_9
                        case hi_9 => ((intro W hSw; have y0 : W.cell? ⟨g13, 3, none⟩ = some (.slice AI' c.items.length cI') := hSw.1.cell 3; have y1 : W.cell? ⟨w.heap.size, 6, none⟩ = some (.string x.called) := hSw.2.cell 6; go_simp); (try (with_reducible rfl)))
                        try simp only [Act.put, List.setIfInBounds_toArray, List.set_cons_zero, List.set_cons_succ]
                        refine ht_done (by kernel_rfl) rfl ?_
                        have y8 : w7.cell? ⟨w.heap.size + 1 + 1, 8, none⟩ = some (.slice none 0 0) := ((HX5.out.cw.b11.below hb6 HX5.out.cw.b11.lt).mk_ hmk7 (by decide) (by decide)).cell 8
                        have f8 := ((HX5.out.cw.b11.below hb6 HX5.out.cw.b11.lt).mk_ hmk7 (by decide) (by decide)).frozen 8
                        obtain ⟨A7, k7, _, rfl, _, _, _⟩ := rdp_sl.1 hrd7
                        go_wp2_with fail
                        go_meet
                        case rel =>
                          have hcx := (HX5.out.below hb6 hsz0).step hmk7 hst7
                          rw [HS.out] at hst7
                          have hg := only_set (w := w7) (p := ⟨w.heap.size + 1 + 1, 8, none⟩) rfl (.slice A7 its.length k7)
                          refine ⟨A7, k7, hcx.cw.mk_.setNew _ (by simp; omega) hsz0, hcx.cw.b10.grown hg (by simp), hcx.cw.b11.set_ 8 _, hcx.b13.grown hg ?_, hst7.new_ hg hcx.cw.b11, RdP.keep (fun b (hb : w6.heap.size ≤ b) hl => ⟨hg.block b hl (fun e => by have e2 : b = w.heap.size + 1 + 1 := (by injection e); omega), Nat.le_trans hsz6 hb⟩) _ _ hrd7, ?_⟩
                          · intro e
                            injection e with e
                            have h1 := hcx.b13
                            rw [e] at h1
                            have h2 := hcx.cw.b11
                            unfold Blk at h1 h2
                            rw [h1] at h2
                            injection h2 with h2
                            injection h2 with _ ht _
                            exact absurd ht (by decide)
                          · have := hmk7.size
                            simp [World.setCell]
                            omega
                      · go_simp
                        refine hK.out _ _ (⟨hHeld.1.alloc _, hHeld.2.alloc _⟩) (fun hHeld => ?_)
                        clear hK K
                        try simp only [Act.put, List.setIfInBounds_toArray, List.set_cons_zero, List.set_cons_succ]
                        refine ht_one 6 rfl (by kernel_rfl) (fun K hK => ?_)
                        go_simp
                        refine (cloneStr_any (HOPW.out _ (by first | exact (Below.refl _ _).drew | exact ((Below.refl _ _).drew).alloc (Nat.le_refl _) _)) (by omega)).mono ?_
                        rintro e w4 ⟨vc, xc, rfl, hoc, hlc, hb4⟩
                        go_wp2_with fail
                        refine hK.out _ _ (⟨hHeld.1.below hb4 hHeld.1.lt, hHeld.2.below hb4 hHeld.2.lt⟩) (fun hHeld => ?_)
                        clear hK K
                        try simp only [Act.put, List.setIfInBounds_toArray, List.set_cons_zero, List.set_cons_succ]
                        refine ht_one 10 rfl (by kernel_rfl) (fun K hK => ?_)
                        refine step_append_lies _ (by rfl) (.tmp 119) (.tmp 122) _ (by rfl) _ 9 j0 _ 1 16 Try.underlying30 hj0 hy0 hy1 hy2 rfl (by omega) vc _ _ (by rfl) hoc ⟨wc.heap.size, 0, none⟩ 1 1 [.string x.called] (by rfl) (by rfl) (World.news_of_block (cs := #[.string x.called]) (t := 9) (fr := (0, 0)) ((hb4.block _ (by simp)).trans (heap_alloc_new wc.drew _))) (by simp [Value.oneCell']) (by omega) (by unfold maxLen; omega) (by omega) (by have := hb4.size; simp at this ⊢; omega) w4.heap.size rfl ?_
                        intro gA capA w6 hown6 hgrow6 hat6 hlt6
                        have hb46 : Below wc.heap.size wc w4 := (((Below.refl wc.heap.size wc).drew).alloc (Nat.le_refl _) (.cells #[.string x.called] 9)).trans (hb4.mono (by simp))
                        have hb6 : Below wc.heap.size wc w6 := hb46.grown hgrow6 hb46.size (fun k hk => by have := (hoc.lt k hk).1; simp at this; omega)
                        have hrd6 := rd_strs_snoc hown6 hlc
                        refine hK.out _ _ (⟨hHeld.1.grown hgrow6 (Ne.symm (blk_own_ne hoc hHeld.1 (by decide))), hHeld.2.grown hgrow6 (Ne.symm (blk_own_ne hoc hHeld.2 (by decide)))⟩) (fun hHeld => ?_)
                        clear hK K
                        try simp only [Act.put, List.setIfInBounds_toArray, List.set_cons_zero, List.set_cons_succ]
                        refine ht_one 11 rfl (by kernel_rfl) (fun K hK => ?_)
                        go_simp
                        refine (HI.out w0 w6 m vM _ _ _ _ q al (op ++ [x.called]) c.items s1 s2 its (HB0.out.trans (HMC.out.to_below.trans (hb6.mono (by omega)))) HC.out HIC.out (Rd.below hb6 _ _ HX5.out.al_) hrd6 (HX5.out.st.below hb6) HIT.out HSM.out.items hIb (by omega) (by simp; omega) (by rw [HS.out]; exact hn) hn1 (by rw [HS.out]; exact hfl)).mono ?_
                        rintro e w7 ⟨v7, rfl, hrd7, hst7, hmk7⟩
                        have hsz6 := hb6.size
                        go_wp2_with fail
                        refine hK.out _ _ (⟨hHeld.1.mk_ hmk7 (by decide) (by decide), hHeld.2.mk_ hmk7 (by decide) (by decide)⟩) (fun hHeld => ?_)
                        clear hK K
                        try simp only [Act.put, List.setIfInBounds_toArray, List.set_cons_zero, List.set_cons_succ]
                        refine ht_take 12 (v := ?vi_10) rfl (by kernel_rfl) (fun _ _ _ h => h) (Or.inl ⟨by rfl, ?hi_10⟩) hHeld ?ri_10
                        case hi_10 => ((intro W hSw; have y0 : W.cell? ⟨g13, 3, none⟩ = some (.slice AI' c.items.length cI') := hSw.1.cell 3; have y1 : W.cell? ⟨w.heap.size, 6, none⟩ = some (.string x.called) := hSw.2.cell 6; go_simp); (try (with_reducible rfl)))
                        try simp only [Act.put, List.setIfInBounds_toArray, List.set_cons_zero, List.set_cons_succ]
                        refine ht_done (by kernel_rfl) rfl ?_
                        have y8 : w7.cell? ⟨w.heap.size + 1 + 1, 8, none⟩ = some (.slice none 0 0) := ((HX5.out.cw.b11.below hb6 HX5.out.cw.b11.lt).mk_ hmk7 (by decide) (by decide)).cell 8
                        have f8 := ((HX5.out.cw.b11.below hb6 HX5.out.cw.b11.lt).mk_ hmk7 (by decide) (by decide)).frozen 8
                        obtain ⟨A7, k7, _, rfl, _, _, _⟩ := rdp_sl.1 hrd7
                        go_wp2_with fail
                        go_meet
                        case rel =>
                          have hcx := (HX5.out.below hb6 hsz0).step hmk7 hst7
                          rw [HS.out] at hst7
                          have hg := only_set (w := w7) (p := ⟨w.heap.size + 1 + 1, 8, none⟩) rfl (.slice A7 its.length k7)
                          refine ⟨A7, k7, hcx.cw.mk_.setNew _ (by simp; omega) hsz0, hcx.cw.b10.grown hg (by simp), hcx.cw.b11.set_ 8 _, hcx.b13.grown hg ?_, hst7.new_ hg hcx.cw.b11, RdP.keep (fun b (hb : w6.heap.size ≤ b) hl => ⟨hg.block b hl (fun e => by have e2 : b = w.heap.size + 1 + 1 := (by injection e); omega), Nat.le_trans hsz6 hb⟩) _ _ hrd7, ?_⟩
                          · intro e
                            injection e with e
                            have h1 := hcx.b13
                            rw [e] at h1
                            have h2 := hcx.cw.b11
                            unfold Blk at h1 h2
                            rw [h1] at h2
                            injection h2 with h2
                            injection h2 with _ ht _
                            exact absurd ht (by decide)
                          · have := hmk7.size
                            simp [World.setCell]
                            omega
                    case rest =>
                      obtain ⟨A7, k7, hmk8, hb10, hb11, hb13, hst8, hrd8, hN8⟩ := hcut
                      have g4 : wc.cell? ⟨g13, 4, none⟩ = some (.slice AS' c.seqs.length cS') := hb13.cell 4
                      have HMK8 := Lib.hid hmk8
                      have HB10 := Lib.hid hb10
                      have HB11 := Lib.hid hb11
                      have HST8 := Lib.hid hst8
                      have HRD8 := Lib.hid hrd8
                      have hseq : Rd wc (seqsD c.seqs) (.slice AS' c.seqs.length cS') := Rd.below (HB0.out.trans hmk8.to_below) _ _ HSC.out
                      have hsq : ∀ x ∈ c.seqs, x.id.size ≤ 1000000 ∧ x.src.size ≤ 1000000 ∧ x.dst.size ≤ 1000000 := fun x hx => by
                        obtain ⟨h1, h2, h3⟩ := HSM.out.seqs x hx
                        omega
                      have HSEQ := Lib.hid hseq
                      have HSQ := Lib.hid hsq
                      have hnsq := HSM.out.nseqs
                      clear hmk8 hb10 hb11 hb13 hst8 hrd8 hseq hsq
                      go_wp2_with fail
                      refine (seqs_any q (by omega) HSEQ.out hnsq HSQ.out).mono ?_
                      rintro e w9 ⟨r9, rfl, hr9, hb9⟩
                      have hb11' := HB11.out.below hb9 HB11.out.lt
                      have hb10' := HB10.out.below hb9 HB10.out.lt
                      have y8 : w9.cell? ⟨w.heap.size + 1 + 1, 9, none⟩ = some (.slice none 0 0) := hb11'.cell 9
                      have f8 := hb11'.frozen 9
                      obtain ⟨A9, k9, _, rfl, _, _, _⟩ := rdp_sl.1 hr9
                      have hlen : (c.seqs.map (seqF q)).length = c.seqs.length := by simp
                      rw [hlen] at hr9 ⊢
                      have z0 : w9.cell? ⟨w.heap.size + 1, 0, none⟩ = some (.int .i64 0) := hb10'.cell 0
                      have z1 : w9.cell? ⟨w.heap.size + 1, 1, none⟩ = some (.string ⟨#[]⟩) := hb10'.cell 1
                      have z2 : w9.cell? ⟨w.heap.size + 1, 2, none⟩ = some (.string ⟨#[]⟩) := hb10'.cell 2
                      have z3 : w9.cell? ⟨w.heap.size + 1, 3, none⟩ = some (.slice none 0 0) := hb10'.cell 3
                      have z4 : w9.cell? ⟨w.heap.size + 1, 4, none⟩ = some (.slice none 0 0) := hb10'.cell 4
                      have z5 : w9.cell? ⟨w.heap.size + 1, 5, none⟩ = some (.bool false) := hb10'.cell 5
                      have z6 : w9.cell? ⟨w.heap.size + 1, 6, none⟩ = some (.string ⟨#[]⟩) := hb10'.cell 6
                      have z7 : w9.cell? ⟨w.heap.size + 1, 7, none⟩ = some (.slice none 0 0) := hb10'.cell 7
                      have z8 : w9.cell? ⟨w.heap.size + 1, 8, none⟩ = some (.slice none 0 0) := hb10'.cell 8
                      have z9 : w9.cell? ⟨w.heap.size + 1, 9, none⟩ = some (.slice none 0 0) := hb10'.cell 9
                      have q0 := hb10'.frozen 0
                      have q1 := hb10'.frozen 1
                      have q2 := hb10'.frozen 2
                      have q3 := hb10'.frozen 3
                      have q4 := hb10'.frozen 4
                      have q5 := hb10'.frozen 5
                      have q6 := hb10'.frozen 6
                      have q7 := hb10'.frozen 7
                      have q8 := hb10'.frozen 8
                      have q9 := hb10'.frozen 9
                      have s0 : w9.cell? ⟨w.heap.size + 1 + 1, 0, none⟩ = some (.int .i64 7) := hb11'.cell 0
                      have s1 : w9.cell? ⟨w.heap.size + 1 + 1, 1, none⟩ = some (.string (p ++ x.id)) := hb11'.cell 1
                      have s2 : w9.cell? ⟨w.heap.size + 1 + 1, 2, none⟩ = some (.string ⟨#[]⟩) := hb11'.cell 2
                      have s3 : w9.cell? ⟨w.heap.size + 1 + 1, 3, none⟩ = some (.slice none 0 0) := hb11'.cell 3
                      have s4 : w9.cell? ⟨w.heap.size + 1 + 1, 4, none⟩ = some (.slice none 0 0) := hb11'.cell 4
                      have s5 : w9.cell? ⟨w.heap.size + 1 + 1, 5, none⟩ = some (.bool false) := hb11'.cell 5
                      have s6 : w9.cell? ⟨w.heap.size + 1 + 1, 6, none⟩ = some (.string ⟨#[]⟩) := hb11'.cell 6
                      have s7 : w9.cell? ⟨w.heap.size + 1 + 1, 7, none⟩ = some (.slice none 0 0) := hb11'.cell 7
                      have s8 : w9.cell? ⟨w.heap.size + 1 + 1, 8, none⟩ = some (.slice A7 its.length k7) := hb11'.cell 8
                      have HB9 := Lib.hid hb9
                      have HB11' := Lib.hid hb11'
                      have HB10' := Lib.hid hb10'
                      have HR9 := Lib.hid hr9
                      clear hb9 hb11' hb10' hr9 hlen
                      go_wp2_with fail
                      have hg9 := only_set (w := w9) (p := ⟨w.heap.size + 1 + 1, 9, none⟩) rfl (.slice A9 c.seqs.length k9)
                      have hbZ := HB10'.out.grown hg9 (by simp)
                      have hb3 := setAll_blk (vs := [.int .i64 7, .string (p ++ x.id), .string ⟨#[]⟩, .slice none 0 0, .slice none 0 0, .bool false, .string ⟨#[]⟩, .slice none 0 0, .slice A7 its.length k7, .slice A9 c.seqs.length k9]) 0 (w9.setCell ⟨w.heap.size + 1 + 1, 9, none⟩ (.slice A9 c.seqs.length k9)) _ hbZ rfl
                      have hgA := setAll_grown (g := w.heap.size + 1) [.int .i64 7, .string (p ++ x.id), .string ⟨#[]⟩, .slice none 0 0, .slice none 0 0, .bool false, .string ⟨#[]⟩, .slice none 0 0, .slice A7 its.length k7, .slice A9 c.seqs.length k9] (w9.setCell ⟨w.heap.size + 1 + 1, 9, none⟩ (.slice A9 c.seqs.length k9))
                      have hend : CallEnd w0.heap.size w m vM (.slice (some ⟨b, 0, none⟩) d.chors.length cC) y s' (.returned (.agg #[.int .i64 7, .string (p ++ x.id), .string ⟨#[]⟩, .slice none 0 0, .slice none 0 0, .bool false, .string ⟨#[]⟩, .slice none 0 0, .slice A7 its.length k7, .slice A9 c.seqs.length k9])) (setAll (w9.setCell ⟨w.heap.size + 1 + 1, 9, none⟩ (.slice A9 c.seqs.length k9)) (w.heap.size + 1) 0 [.int .i64 7, .string (p ++ x.id), .string ⟨#[]⟩, .slice none 0 0, .slice none 0 0, .bool false, .string ⟨#[]⟩, .slice none 0 0, .slice A7 its.length k7, .slice A9 c.seqs.length k9]) := by
                        have h9 := HB9.out.size
                        rw [← HY.out]
                        refine ⟨_, _, rfl, rfl, ?_, ?_, ((HST8.out.below HB9.out).new_ hg9 HB11'.out).new_ hgA hbZ, ((HMK8.out.below HB9.out hsz0).setNew _ (by show w.heap.size ≤ w.heap.size + 1 + 1; omega) hsz0).setAll_ (by omega) hsz0 _ _⟩
                        · refine RdP.keep (fun b hb hl => ?_) _ _ (HRD8.out.below HB9.out)
                          have hb' : w.heap.size + 3 ≤ b := Nat.le_trans hszc hb
                          have e1 := hg9.block b hl (fun e => by have e2 : b = w.heap.size + 1 + 1 := (by injection e); omega)
                          have e3 := hgA.block b (by simpa [World.setCell] using hl) (fun e => by have e2 : b = w.heap.size + 1 := (by injection e); omega)
                          exact ⟨e3.trans e1, by omega⟩
                        · refine RdP.keep (fun b hb hl => ?_) _ _ HR9.out
                          have hb' : w.heap.size + 3 ≤ b := Nat.le_trans hszc (Nat.le_trans hN8 hb)
                          have e1 := hg9.block b hl (fun e => by have e2 : b = w.heap.size + 1 + 1 := (by injection e); omega)
                          have e3 := hgA.block b (by simpa [World.setCell] using hl) (fun e => by have e2 : b = w.heap.size + 1 := (by injection e); omega)
                          exact ⟨e3.trans e1, by omega⟩
                      exact bodyPost_ret (ret_call hb3 rfl) rfl hend
      · have hF := HF.out
        unfold callG at hF
        rw [← HK.out, if_neg (by omega), if_pos hc] at hF
        injection hF with hF
        injection hF with hy hs
        have HY := Lib.hid hy
        have HS := Lib.hid hs
        clear hy hs hc
        go_wp2_with fail
        refine (wrong_mk 10 HST1.out).mono ?_
        rintro e w2 ⟨rfl, hst2, hmk2⟩
        have hcw2 := HCW1.out.step hmk2
        have z0 : w2.cell? ⟨w.heap.size + 1 + 1, 0, none⟩ = some (.int .i64 7) := hcw2.b11.cell 0
        have z1 : w2.cell? ⟨w.heap.size + 1 + 1, 1, none⟩ = some (.string (p ++ x.id)) := hcw2.b11.cell 1
        have z2 : w2.cell? ⟨w.heap.size + 1 + 1, 2, none⟩ = some (.string ⟨#[]⟩) := hcw2.b11.cell 2
        have z3 : w2.cell? ⟨w.heap.size + 1 + 1, 3, none⟩ = some (.slice none 0 0) := hcw2.b11.cell 3
        have z4 : w2.cell? ⟨w.heap.size + 1 + 1, 4, none⟩ = some (.slice none 0 0) := hcw2.b11.cell 4
        have z5 : w2.cell? ⟨w.heap.size + 1 + 1, 5, none⟩ = some (.bool false) := hcw2.b11.cell 5
        have z6 : w2.cell? ⟨w.heap.size + 1 + 1, 6, none⟩ = some (.string ⟨#[]⟩) := hcw2.b11.cell 6
        have z7 : w2.cell? ⟨w.heap.size + 1 + 1, 7, none⟩ = some (.slice none 0 0) := hcw2.b11.cell 7
        have z8 : w2.cell? ⟨w.heap.size + 1 + 1, 8, none⟩ = some (.slice none 0 0) := hcw2.b11.cell 8
        have z9 : w2.cell? ⟨w.heap.size + 1 + 1, 9, none⟩ = some (.slice none 0 0) := hcw2.b11.cell 9
        have y0 : w2.cell? ⟨w.heap.size + 1, 0, none⟩ = some (.int .i64 0) := hcw2.b10.cell 0
        have y1 : w2.cell? ⟨w.heap.size + 1, 1, none⟩ = some (.string ⟨#[]⟩) := hcw2.b10.cell 1
        have y2 : w2.cell? ⟨w.heap.size + 1, 2, none⟩ = some (.string ⟨#[]⟩) := hcw2.b10.cell 2
        have y3 : w2.cell? ⟨w.heap.size + 1, 3, none⟩ = some (.slice none 0 0) := hcw2.b10.cell 3
        have y4 : w2.cell? ⟨w.heap.size + 1, 4, none⟩ = some (.slice none 0 0) := hcw2.b10.cell 4
        have y5 : w2.cell? ⟨w.heap.size + 1, 5, none⟩ = some (.bool false) := hcw2.b10.cell 5
        have y6 : w2.cell? ⟨w.heap.size + 1, 6, none⟩ = some (.string ⟨#[]⟩) := hcw2.b10.cell 6
        have y7 : w2.cell? ⟨w.heap.size + 1, 7, none⟩ = some (.slice none 0 0) := hcw2.b10.cell 7
        have y8 : w2.cell? ⟨w.heap.size + 1, 8, none⟩ = some (.slice none 0 0) := hcw2.b10.cell 8
        have y9 : w2.cell? ⟨w.heap.size + 1, 9, none⟩ = some (.slice none 0 0) := hcw2.b10.cell 9
        have q0 := hcw2.b10.frozen 0
        have q1 := hcw2.b10.frozen 1
        have q2 := hcw2.b10.frozen 2
        have q3 := hcw2.b10.frozen 3
        have q4 := hcw2.b10.frozen 4
        have q5 := hcw2.b10.frozen 5
        have q6 := hcw2.b10.frozen 6
        have q7 := hcw2.b10.frozen 7
        have q8 := hcw2.b10.frozen 8
        have q9 := hcw2.b10.frozen 9
        have HCW2 := Lib.hid hcw2
        have HST2 := Lib.hid hst2
        clear hcw2 hst2 hmk2
        go_wp2_with fail
        have hb3 := setAll_blk (vs := [.int .i64 7, .string (p ++ x.id), .string ⟨#[]⟩, .slice none 0 0, .slice none 0 0, .bool false, .string ⟨#[]⟩, .slice none 0 0, .slice none 0 0, .slice none 0 0]) 0 w2 _ HCW2.out.b10 rfl
        have hend : CallEnd w0.heap.size w m vM (.slice AC d.chors.length cC) y s' (.returned (.agg #[.int .i64 7, .string (p ++ x.id), .string ⟨#[]⟩, .slice none 0 0, .slice none 0 0, .bool false, .string ⟨#[]⟩, .slice none 0 0, .slice none 0 0, .slice none 0 0])) (setAll w2 (w.heap.size + 1) 0 [.int .i64 7, .string (p ++ x.id), .string ⟨#[]⟩, .slice none 0 0, .slice none 0 0, .bool false, .string ⟨#[]⟩, .slice none 0 0, .slice none 0 0, .slice none 0 0]) := by
          rw [← HY.out, ← HS.out]
          exact ⟨_, _, rfl, rfl, rd_nil_items, rd_nil_seqs, HST2.out.new_ (setAll_grown _ _) HCW2.out.b10, HCW2.out.mk_.setAll_ (by omega) hsz0 _ _⟩
        exact bodyPost_ret (ret_call hb3 rfl) rfl hend
end Go.Proofs.Yteoioboiniealaa
