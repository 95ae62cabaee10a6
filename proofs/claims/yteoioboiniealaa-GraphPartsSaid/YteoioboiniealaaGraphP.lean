/- The walk of the law GraphParts. -/
import Derived.Test.YteoioboiniealaaGraphO
namespace Go.Proofs.Yteoioboiniealaa
open Go.RowKit
attribute [local go_sem ↓] Go.wp_at_zero Go.wp_at_succ

theorem Gr.setFar {W : World} {AP AM AN AE : Option Addr} {cP cM cN cE np nm : Nat} {ns : List GN} {es : List (Int × Int)} (h : Gr W AP AM AN AE cP cM cN cE np nm ns es) {U : Nat} {cs : Array Value} (hU : Blk W U 76 cs) (j : Nat) (u : Value) : Gr (W.setCell ⟨U, j, none⟩ u) AP AM AN AE cP cM cN cE np nm ns es :=
  ⟨h.parts.imp fun _ h => ownsRow_setCell_other h (blk_own_ne h hU (by decide)) _, h.msgs.imp fun _ h => ownsRow_setCell_other h (blk_own_ne h hU (by decide)) _, ownsRow_setCell_other h.nodes (blk_own_ne h.nodes hU (by decide)) _, ownsRow_setCell_other h.edges (blk_own_ne h.edges hU (by decide)) _⟩
/-- How memory stands in GraphParts. -/
structure PW (w : World) (g U : Nat) (AP AM AN AE : Option Addr) (cN cE : Nat) (ns : List GN) (es : List (Int × Int)) (uc : Array Value) (W : World) : Prop where
  bel : Below w.heap.size w W
  gr : Gr W AP AM AN AE 3 2 cN cE 3 2 ns es
  gb : Blk W g 44 #[.slice AP 3 3, .slice AM 2 2, .slice AN ns.length cN, .slice AE es.length cE]
  ub : Blk W U 76 uc
  gU : w.heap.size ≤ g ∧ g < U
section
variable {w W W' : World} {g U : Nat} {AP AM AN AE : Option Addr} {cN cE : Nat} {ns : List GN} {es : List (Int × Int)} {uc : Array Value}
theorem PW.below (h : PW w g U AP AM AN AE cN cE ns es uc W) (hb : Below W.heap.size W W') : PW w g U AP AM AN AE cN cE ns es uc W' :=
  ⟨h.bel.trans (hb.mono h.bel.size), h.gr.below hb, h.gb.below hb h.gb.lt, h.ub.below hb h.ub.lt, h.gU⟩
theorem PW.setU (h : PW w g U AP AM AN AE cN cE ns es uc W) (j : Nat) (u : Value) : PW w g U AP AM AN AE cN cE ns es (uc.setIfInBounds j u) (W.setCell ⟨U, j, none⟩ u) :=
  ⟨h.bel.setCell (by have := h.gU; simp; omega) _, h.gr.setFar h.ub j u, h.gb.far (by have := h.gU; simp; omega) _, h.ub.set_ j u, h.gU⟩
theorem PW.gcells (h : PW w g U AP AM AN AE cN cE ns es uc W) : W.cell? ⟨g, 0, none⟩ = some (.slice AP 3 3) ∧ W.cell? ⟨g, 1, none⟩ = some (.slice AM 2 2) ∧ W.cell? ⟨g, 2, none⟩ = some (.slice AN ns.length cN) ∧ W.cell? ⟨g, 3, none⟩ = some (.slice AE es.length cE) :=
  ⟨h.gb.cell 0, h.gb.cell 1, h.gb.cell 2, h.gb.cell 3⟩
theorem PW.node (h : PW w g U AP AM AN AE cN cE ns es uc W) (i : Nat) (hi : i < ns.length) : ∃ b, AN = some ⟨b, 0, none⟩ ∧ b < W.heap.size ∧ ∀ j, j < 7 → W.cell? ⟨b, i * 7 + j, none⟩ = (cellsN ns[i])[j]? := by
  obtain ⟨b, hAN, hbl, _, hcell⟩ := own_at (A := AN) h.gr.nodes (by omega)
  exact ⟨b, hAN, hbl, fun j hj => (hcell _ (by omega)).trans (flatN_at ns i hi j hj)⟩
theorem PW.edge (h : PW w g U AP AM AN AE cN cE ns es uc W) (k : Nat) (hk : k < es.length) : ∃ b, AE = some ⟨b, 0, none⟩ ∧ b < W.heap.size ∧ W.cell? ⟨b, k * 2, none⟩ = some (.int .i64 es[k].1) ∧ W.cell? ⟨b, k * 2 + 1, none⟩ = some (.int .i64 es[k].2) := by
  obtain ⟨b, hAE, hbl, _, hcell⟩ := own_at (A := AE) h.gr.edges (by omega)
  obtain ⟨f1, f2⟩ := flatE_at es k hk
  exact ⟨b, hAE, hbl, (hcell _ (by omega)).trans f1, (hcell _ (by omega)).trans f2⟩
end
/-- What holds at each round's head of the first loop. -/
def InP1 (w : World) (g U : Nat) (AP AM AN AE : Option Addr) (cN cE : Nat) (ns : List GN) (es : List (Int × Int)) (tv sv iv : Value) (wr : World) : Prop :=
  ∃ i : Nat, i ≤ ns.length ∧ iv = .int .i64 i ∧ tv = .int .i64 (cntN isTask ns i : Nat) ∧ sv = .int .i64 (findFrom isStart (ns.take i) 0) ∧ PW w g U AP AM AN AE cN cE ns es (usedC ns i) wr
/-- The two lists of a node's edges. -/
def TwoL (es : List (Int × Int)) (pin pout : Int × Int → Bool) (la lb : Nat) (av bv : Value) (wx : World) : Prop :=
  ∃ A cA B cB, av = .slice A la cA ∧ bv = .slice B lb cB ∧ wx.ownsRow 0 3 1 av la ((placesFrom pin es 0).map (Value.int .i64)) ∧ wx.ownsRow 0 3 1 bv lb ((placesFrom pout es 0).map (Value.int .i64))

set_option maxHeartbeats 8000000 in
set_option maxRecDepth 100000 in
theorem graphParts_walk (A0 : Option Addr) (c0 : Nat) (x0 : List Int) (A1 : Option Addr) (c1 : Nat) (x1 : List (Int × Int)) (a2 : Int) (w : World) (m0 : x0.length ≤ maxLen) (h0 : IntsAt w A0 x0) (m1 : x1.length ≤ maxLen) (h1 : PairsAt w A1 x1) (_w2 : (Lit.int .i64 a2).wf = true) :
    Calls Try.prog 8 #[.slice A0 x0.length c0, .slice A1 x1.length c1, .int .i64 a2] w fun e w' => e = .returned (.bool true) ∧ Below w.heap.size w w' := by
  have HAny := Lib.hid (any_any (w := w) (cA := c0) (cB := c1) a2 x0 x1 h0 m0 h1 m1)
  clear _w2 h0 h1 m0 m1
  go_enter Try.func8, Try.ntmps8
  go_wp2_with fail
  refine HAny.out.mono ?_
  rintro e w1 ⟨vN, vE, ns, es, rfl, haw, hn8, he14, hqn, hqe⟩
  obtain ⟨AN, cN, rfl, _, _⟩ := own_slice haw.nodes
  obtain ⟨AE, cE, rfl, _, _⟩ := own_slice haw.edges
  have HQN := Lib.hid hqn
  have hsz := haw.sz
  have hgr := haw.gr
  have hbel := haw.bel
  clear haw hqn hqe HAny
  go_upto_block 0 with fail
  have hpw : PW w w1.heap.size (w1.heap.size + 1) (some ⟨w.heap.size + 1, 0, none⟩) (some ⟨w.heap.size + 1 + 1, 0, none⟩) AN AE cN cE ns es #[.bool false, .bool false, .bool false] ((w1.alloc (.cells #[.slice (some ⟨w.heap.size + 1, 0, none⟩) 3 3, .slice (some ⟨w.heap.size + 1 + 1, 0, none⟩) 2 2, .slice AN ns.length cN, .slice AE es.length cE] 44)).alloc (.cells #[.bool false, .bool false, .bool false] 76)) := by
    have hb : Below w1.heap.size w1 ((w1.alloc (.cells #[.slice (some ⟨w.heap.size + 1, 0, none⟩) 3 3, .slice (some ⟨w.heap.size + 1 + 1, 0, none⟩) 2 2, .slice AN ns.length cN, .slice AE es.length cE] 44)).alloc (.cells #[.bool false, .bool false, .bool false] 76)) := ((Below.refl _ _).alloc (Nat.le_refl _) _).alloc (by simp) _
    refine ⟨hbel.trans (hb.mono hbel.size), hgr.below hb, (Blk.new _ _ _).alloc _, ?_, ⟨by omega, by omega⟩⟩
    have := Blk.new (w1.alloc (.cells #[.slice (some ⟨w.heap.size + 1, 0, none⟩) 3 3, .slice (some ⟨w.heap.size + 1 + 1, 0, none⟩) 2 2, .slice AN ns.length cN, .slice AE es.length cE] 44)) 76 #[.bool false, .bool false, .bool false]
    simpa using this
  generalize ((w1.alloc (.cells #[.slice (some ⟨w.heap.size + 1, 0, none⟩) 3 3, .slice (some ⟨w.heap.size + 1 + 1, 0, none⟩) 2 2, .slice AN ns.length cN, .slice AE es.length cE] 44)).alloc (.cells #[.bool false, .bool false, .bool false] 76)) = W at *
  generalize w1.heap.size + 1 = U at *
  generalize hgg : w1.heap.size = g at *
  generalize (some ⟨w.heap.size + 1, 0, none⟩ : Option Addr) = AP at *
  generalize (some ⟨w.heap.size + 1 + 1, 0, none⟩ : Option Addr) = AM at *
  have HPW0 := Lib.hid hpw
  clear hpw hgr hbel hgg hsz
  go_cut [8, 10] (fun tv sv wx => tv = .int .i64 (cntN isTask ns ns.length : Nat) ∧ sv = .int .i64 (findFrom isStart ns 0) ∧ PW w g U AP AM AN AE cN cE ns es (usedC ns ns.length) wx)
  case first => as_aux_lemma =>
    go_wp2_with fail
    go_loopw [8, 10, 11] (fun tv sv iv wr => InP1 w g U AP AM AN AE cN cE ns es tv sv iv wr) (fun _ _ iv _ => ns.length - (intOf iv).toNat)
    case atStart => exact ⟨0, Nat.zero_le _, rfl, rfl, rfl, HPW0.out⟩
    case round =>
      obtain ⟨i, hil, rfl, rfl, rfl, hPW⟩ := hrel
      obtain ⟨y0, y1, y2, y3⟩ := hPW.gcells
      have hgl := hPW.gb.lt
      have hUl := hPW.ub.lt
      have HPW := Lib.hid hPW
      clear hPW
      by_cases hlt : i < ns.length
      · obtain ⟨pin, hpin⟩ : ∃ p : Int × Int → Bool, p = fun x : Int × Int => x.2 == (i : Int) := ⟨_, rfl⟩
        obtain ⟨pout, hpout⟩ : ∃ p : Int × Int → Bool, p = fun x : Int × Int => x.1 == (i : Int) := ⟨_, rfl⟩
        obtain ⟨la, hla⟩ : ∃ la, la = (placesFrom pin es 0).length := ⟨_, rfl⟩
        obtain ⟨lb, hlb⟩ : ∃ lb, lb = (placesFrom pout es 0).length := ⟨_, rfl⟩
        have hInC := fun (W1 : World) (vP vM vN : Value) (hE : W1.ownsRow 0 53 2 (.slice AE es.length cE) es.length (flatE es)) => by
          have h := in_any (vP := vP) (vM := vM) (vN := vN) hE (by omega : es.length ≤ 1000000) (i : Int)
          rw [← hpin] at h
          exact h
        have hOutC := fun (W1 : World) (vP vM vN : Value) (hE : W1.ownsRow 0 53 2 (.slice AE es.length cE) es.length (flatE es)) => by
          have h := out_any (vP := vP) (vM := vM) (vN := vN) hE (by omega : es.length ≤ 1000000) (i : Int)
          rw [← hpout] at h
          exact h
        unfold RetInts at hInC hOutC
        simp only [← hla] at hInC
        simp only [← hlb] at hOutC
        have HInC := Lib.hid hInC
        have HOutC := Lib.hid hOutC
        have HPI := Lib.hid hpin
        have HPO := Lib.hid hpout
        have HLA := Lib.hid hla
        have HLB := Lib.hid hlb
        clear hpin hpout hla hlb hInC hOutC
        have HE := Lib.hid HPW.out.gr.edges
        go_upto_region 7 with fail
        go_cut [14, 15] (fun av bv wx => TwoL es pin pout la lb av bv wx ∧ PW w g U AP AM AN AE cN cE ns es (usedC ns i) wx)
        case first => as_aux_lemma =>
          go_region_held3 (fun w' => w'.cell? ⟨g, 0, none⟩ = some (.slice AP 3 3) ∧ w'.cell? ⟨g, 1, none⟩ = some (.slice AM 2 2) ∧ w'.cell? ⟨g, 2, none⟩ = some (.slice AN ns.length cN) ∧ w'.cell? ⟨g, 3, none⟩ = some (.slice AE es.length cE))
            (first | go_keep | (go_split_ands; refine ⟨?_, ?_, ?_, ?_⟩ <;> (first | exact (hbo.cell (by have := hbi.size; simp at this ⊢; omega)).trans (by assumption) | exact (hbi.cell (by simp; omega)).trans (by assumption) | exact (hbo.cell (by simp; omega)).trans (by assumption) | exact (hbi.cell (by have := hbo.size; simp at this ⊢; omega)).trans (by assumption))))
            ((first
              | (go_at_call 24; refine (HInC.out _ _ _ _ (by first | exact HE.out | exact HE.out.drew | exact own_below HE.out.drew hbo)).mono ?_; rintro e w3 ⟨A3, k3, rfl, hO3, hbi⟩)
              | (go_at_call 25; refine (HOutC.out _ _ _ _ (by first | exact HE.out | exact HE.out.drew | exact own_below HE.out.drew hbi)).mono ?_; rintro e w4 ⟨A4, k4, rfl, hO4, hbo⟩)))
          all_goals
            go_wp2_with fail
            go_meet
            case rel => exact ⟨⟨A3, k3, A4, k4, rfl, rfl, own_mono (own_below hO3 hbo) (by omega), own_mono hO4 (by omega)⟩, ((HPW.out.below (Below.refl _ _).drew).below hbi).below hbo⟩
        case rest => as_aux_lemma =>
          obtain ⟨⟨A, cA, B, cB, rfl, rfl, hO1, hO2⟩, hP2⟩ := hcut
          clear y0 y1 y2 y3 hgl hUl HInC HOutC HE HPW
          have hA : ∀ k (h : k < es.length), pin es[k] = true → ∃ ba, A = some ⟨ba, 0, none⟩ ∧ wc.cell? ⟨ba, cntN pin es k, none⟩ = some (.int .i64 k) ∧ cntN pin es k < la := fun k hk hp => by
            have hlt := cntN_lt pin es k hk hp
            rw [← HLA.out] at hlt
            obtain ⟨ba, hA, _, _, hcell⟩ := own_at (A := A) hO1 (by omega)
            refine ⟨ba, hA, ?_, hlt⟩
            rw [hcell _ (by omega), List.getElem?_map, placesFrom_at pin es k 0 hk hp]
            simp
          have hB : ∀ k (h : k < es.length), pout es[k] = true → ∃ bb, B = some ⟨bb, 0, none⟩ ∧ wc.cell? ⟨bb, cntN pout es k, none⟩ = some (.int .i64 k) ∧ cntN pout es k < lb := fun k hk hp => by
            have hlt := cntN_lt pout es k hk hp
            rw [← HLB.out] at hlt
            obtain ⟨ba, hA, _, _, hcell⟩ := own_at (A := B) hO2 (by omega)
            refine ⟨ba, hA, ?_, hlt⟩
            rw [hcell _ (by omega), List.getElem?_map, placesFrom_at pout es k 0 hk hp]
            simp
          have HA := Lib.hid hA
          have HB := Lib.hid hB
          obtain ⟨y0, y1, y2, y3⟩ := hP2.gcells
          have hgl := hP2.gb.lt
          have hUl := hP2.ub.lt
          have HPW := Lib.hid hP2
          clear hA hB hO1 hO2 hP2
          obtain ⟨V, rfl⟩ : ∃ V : World, V = wc := ⟨_, rfl⟩
          go_wp2_with fail
          go_loop [12, 13, 16] (fun inv outv kv => ∃ k : Nat, k ≤ es.length ∧ kv = .int .i64 k ∧ inv = .int .i64 (cntN pin es k : Nat) ∧ outv = .int .i64 (cntN pout es k : Nat)) (fun _ _ kv => es.length - (intOf kv).toNat)
          case atStart => exact ⟨0, Nat.zero_le _, rfl, rfl, rfl⟩
          case round =>
            obtain ⟨k, hk, rfl, rfl, rfl⟩ := hrel
            have hli := cntN_le pin es k
            have hlo := cntN_le pout es k
            by_cases hkl : k < es.length
            · obtain ⟨be, rfl, hbel, e1, e2⟩ := HPW.out.edge k hkl
              have hsi := cntN_step pin es k hkl
              have hso := cntN_step pout es k hkl
              have hpi : pin es[k] = (es[k].2 == (i : Int)) := by rw [HPI.out]
              have hpo : pout es[k] = (es[k].1 == (i : Int)) := by rw [HPO.out]
              have hA1 := HA.out k hkl
              have hB1 := HB.out k hkl
              rw [hpi] at hsi hA1
              rw [hpo] at hso hB1
              clear hpi hpo
              generalize es[k].1 = v1 at *
              generalize es[k].2 = v2 at *
              generalize cntN pin es k = a at *
              generalize cntN pout es k = o at *
              rcases t2 : (v2 == (i : Int)) with _ | _
              all_goals
                rcases t1 : (v1 == (i : Int)) with _ | _
                all_goals
                  rw [t2] at hsi hA1
                  rw [t1] at hso hB1
                  first
                    | (obtain ⟨ba, rfl, hca, hlta⟩ := hA1 rfl
                       clear hA1)
                    | clear hA1
                  first
                    | (obtain ⟨bb, rfl, hcb, hltb⟩ := hB1 rfl
                       clear hB1)
                    | clear hB1
                  have HSI := Lib.hid hsi
                  have HSO := Lib.hid hso
                  clear hsi hso
                  go_wp2_with fail
                  go_round
                  case rel => exact ⟨k + 1, by omega, by go_num, by rw [HSI.out]; go_num, by rw [HSO.out]; go_num⟩
                  case measure => simp [intOf]; omega
            · have hki : cntN pin es k = la := by
                obtain rfl : k = es.length := by omega
                rw [cntN_all _ _ _ (Nat.le_refl _), HLA.out, placesFrom_cnt]
              have hko : cntN pout es k = lb := by
                obtain rfl : k = es.length := by omega
                rw [cntN_all _ _ _ (Nat.le_refl _), HLB.out, placesFrom_cnt]
              rw [hki] at hli ⊢
              rw [hko] at hlo ⊢
              clear hki hko HA HB HPI HPO HLA HLB
              obtain ⟨bn, rfl, hbn, hat⟩ := HPW.out.node i hlt
              have n0 : V.cell? ⟨bn, i * 7, none⟩ = some (.int .i64 ns[i].kind) := hat 0 (by omega)
              have n2 : V.cell? ⟨bn, i * 7 + 2, none⟩ = some (.int .i64 ns[i].src) := hat 2 (by omega)
              have n3 : V.cell? ⟨bn, i * 7 + 3, none⟩ = some (.int .i64 ns[i].dst) := hat 3 (by omega)
              have hcn := cntN_step isTask ns i hlt
              have hby := busyI_at ns es.length i hlt
              have hdn : doneI ns es.length i = if busyI ns es.length i < 0 then -1 else busyI ns es.length i + 1 := rfl
              have hff := findFrom_take isStart ns i hlt
              have hus : usedC ns (i + 1) = #[.bool ((ns.take i).any (hasP 0) || hasP 0 ns[i]), .bool ((ns.take i).any (hasP 1) || hasP 1 ns[i]), .bool ((ns.take i).any (hasP 2) || hasP 2 ns[i])] := by
                unfold usedC
                rw [any_take _ _ _ hlt, any_take _ _ _ hlt, any_take _ _ _ hlt]
              have hus0 : usedC ns i = #[.bool ((ns.take i).any (hasP 0)), .bool ((ns.take i).any (hasP 1)), .bool ((ns.take i).any (hasP 2))] := rfl
              have hq : Q13 ns[i] := HQN.out _ (List.getElem_mem hlt)
              have htk : isTask ns[i] = (ns[i].kind == 3) := rfl
              have hsk : isStart ns[i] = (ns[i].kind == 1) := rfl
              rw [htk] at hcn hby
              rw [hsk] at hff
              clear hat htk hsk
              have ht := cntN_le isTask ns i
              have hs0 := find_lo isStart (ns.take i) 0
              generalize cntN isTask ns i = t at *
              generalize findFrom isStart (ns.take i) 0 = st at *
              obtain ⟨x, hx⟩ : ∃ x, x = ns[i] := ⟨_, rfl⟩
              rw [← hx] at n0 n2 n3 hcn hby hff hus hq
              have HX := Lib.hid hx
              clear hx
              obtain ⟨q0, q1, q2, q3, q4, q5, q6⟩ := x
              simp only at n0 n2 n3 hcn hby hff
              rw [hby] at hdn
              rcases h3b : (q0 == 3) with _ | _
              · rw [h3b, if_neg Bool.false_ne_true] at hby hdn hcn
                rw [if_pos (by omega)] at hdn
                have hus1 : usedC ns (i + 1) = usedC ns i := by
                  rw [hus, hus0]
                  have hh : ∀ p, hasP p ⟨q0, q1, q2, q3, q4, q5, q6⟩ = false := fun p => by
                    show (q0 == 3 && (q2 == p || q3 == p)) = false
                    rw [h3b]
                    rfl
                  rw [hh, hh, hh, Bool.or_false, Bool.or_false, Bool.or_false]
                have HUS := Lib.hid hus1
                have HBY := Lib.hid hby
                have HDN := Lib.hid hdn
                have HCN := Lib.hid hcn
                have HPX := Lib.hid HPW.out
                clear hus hus0 hus1 hby hdn hcn hq
                rcases h1b : (q0 == 1) with _ | _
                · rw [h1b, if_neg Bool.false_ne_true] at hff
                  have hff2 : findFrom isStart (ns.take (i + 1)) 0 = st := by rw [hff]; split <;> omega
                  have HFF := Lib.hid hff2
                  clear hff hff2
                  go_wp2_with fail
                  refine (busy_any HPX.out.gr (by omega) (by omega) (i : Int)).mono ?_
                  rintro e w3 ⟨rfl, hb3⟩
                  rw [HBY.out]
                  have HP3 := Lib.hid (HPX.out.below hb3)
                  clear hb3 y0 y1 y2 y3 n0 n2 n3
                  obtain ⟨y0, y1, y2, y3⟩ := HP3.out.gcells
                  go_wp2_with fail
                  refine (done_any HP3.out.gr (by omega) (by omega) (i : Int)).mono ?_
                  rintro e w4 ⟨rfl, hb4⟩
                  rw [HDN.out]
                  have HP4 := Lib.hid (HP3.out.below hb4)
                  clear hb4
                  go_wp2_with fail
                  go_roundw
                  case rel => exact ⟨i + 1, by omega, by go_num, by rw [HCN.out]; rfl, by rw [HFF.out], by rw [HUS.out]; exact HP4.out⟩
                  case measure => simp [intOf]; omega
                · rw [h1b, if_pos (rfl : true = true)] at hff
                  by_cases hst : st < 0
                  · rw [if_pos hst] at hff
                    have HFF := Lib.hid hff
                    clear hff
                    go_wp2_with fail
                    refine (busy_any HPX.out.gr (by omega) (by omega) (i : Int)).mono ?_
                    rintro e w3 ⟨rfl, hb3⟩
                    rw [HBY.out]
                    have HP3 := Lib.hid (HPX.out.below hb3)
                    clear hb3 y0 y1 y2 y3 n0 n2 n3
                    obtain ⟨y0, y1, y2, y3⟩ := HP3.out.gcells
                    go_wp2_with fail
                    refine (done_any HP3.out.gr (by omega) (by omega) (i : Int)).mono ?_
                    rintro e w4 ⟨rfl, hb4⟩
                    rw [HDN.out]
                    have HP4 := Lib.hid (HP3.out.below hb4)
                    clear hb4
                    go_wp2_with fail
                    go_roundw
                    case rel => exact ⟨i + 1, by omega, by go_num, by rw [HCN.out]; rfl, by rw [HFF.out], by rw [HUS.out]; exact HP4.out⟩
                    case measure => simp [intOf]; omega
                  · rw [if_neg hst] at hff
                    have HFF := Lib.hid hff
                    clear hff
                    go_wp2_with fail
                    refine (busy_any HPX.out.gr (by omega) (by omega) (i : Int)).mono ?_
                    rintro e w3 ⟨rfl, hb3⟩
                    rw [HBY.out]
                    have HP3 := Lib.hid (HPX.out.below hb3)
                    clear hb3 y0 y1 y2 y3 n0 n2 n3
                    obtain ⟨y0, y1, y2, y3⟩ := HP3.out.gcells
                    go_wp2_with fail
                    refine (done_any HP3.out.gr (by omega) (by omega) (i : Int)).mono ?_
                    rintro e w4 ⟨rfl, hb4⟩
                    rw [HDN.out]
                    have HP4 := Lib.hid (HP3.out.below hb4)
                    clear hb4
                    go_wp2_with fail
                    go_roundw
                    case rel => exact ⟨i + 1, by omega, by go_num, by rw [HCN.out]; rfl, by rw [HFF.out], by rw [HUS.out]; exact HP4.out⟩
                    case measure => simp [intOf]; omega
              · have hk3 : q0 = 3 := by simpa using h3b
                rw [h3b, if_pos (rfl : true = true)] at hby hdn hcn
                rw [if_neg (by omega)] at hdn
                obtain ⟨_, _, hq4, _⟩ := hq
                obtain ⟨a1, a2', a3, a4, _⟩ := hq4 hk3
                simp only at a1 a2' a3 a4
                have h1b : (q0 == 1) = false := by simp [hk3]
                have hff2 : findFrom isStart (ns.take (i + 1)) 0 = st := by rw [hff, h1b, if_neg Bool.false_ne_true]; split <;> omega
                have hhp : ∀ p, hasP p ⟨q0, q1, q2, q3, q4, q5, q6⟩ = (q2 == p || q3 == p) := fun p => by
                  show (q0 == 3 && (q2 == p || q3 == p)) = _
                  rw [h3b]
                  rfl
                rw [hhp, hhp, hhp] at hus
                have HFF := Lib.hid hff2
                have HUS := Lib.hid hus
                have HUS0 := Lib.hid hus0
                have HBY := Lib.hid hby
                have HDN := Lib.hid hdn
                have HCN := Lib.hid hcn
                clear hff hff2 hus hus0 hby hdn hcn hhp hk3
                go_upto_region 23 with fail
                go_cut [8] (fun s8 wx => s8 = .int .i64 ((t : Int) + 1) ∧ PW w g U AP AM (some ⟨bn, 0, none⟩) AE cN cE ns es (usedC ns (i + 1)) wx)
                case first => as_aux_lemma =>
                  have u0 := HPW.out.ub.cell 0
                  have u1 := HPW.out.ub.cell 1
                  have u2 := HPW.out.ub.cell 2
                  have f0 := HPW.out.ub.frozen 0
                  have f1 := HPW.out.ub.frozen 1
                  have f2 := HPW.out.ub.frozen 2
                  rw [HUS0.out] at u0 u1 u2
                  simp only [List.getElem?_toArray, List.getElem?_cons_zero, List.getElem?_cons_succ] at u0 u1 u2
                  have hgU := HPW.out.gU
                  have hbU : bn ≠ U := by
                    intro e
                    subst e
                    exact blk_own_ne HPW.out.gr.nodes HPW.out.ub (by decide) rfl
                  have ii0 : (0 : Int) ≤ i := by omega
                  have ii1 : (i : Int) < ns.length := by omega
                  obtain ⟨hgU1, hgU2⟩ := hgU
                  have hgU3 : g ≠ U := by omega
                  have hUg : U ≠ g := by omega
                  have hUb : U ≠ bn := Ne.symm hbU
                  rcases (show (q2 = 0 ∨ q2 = 1 ∨ q2 = 2) by omega) with rfl | rfl | rfl
                  all_goals
                    rcases (show (q3 = 0 ∨ q3 = 1 ∨ q3 = 2) by omega) with rfl | rfl | rfl
                  · go_region_held3 (fun w' => w'.cell? ⟨g, 2, none⟩ = some (.slice (some ⟨bn, 0, none⟩) ns.length cN) ∧ w'.cell? ⟨bn, i * 7 + 2, none⟩ = some (.int .i64 0) ∧ w'.cell? ⟨bn, i * 7 + 3, none⟩ = some (.int .i64 0)) (go_keep) (fail)
                    all_goals
                      go_wp2_with fail
                      go_meet
                      case rel =>
                        have hset := ((HPW.out.setU 0 (.bool true)).setU 0 (.bool true)).below (Below.refl _ _).drew
                        rw [HUS0.out] at hset
                        refine ⟨rfl, ?_⟩
                        rw [HUS.out]
                        simpa using hset
                  · go_region_held3 (fun w' => w'.cell? ⟨g, 2, none⟩ = some (.slice (some ⟨bn, 0, none⟩) ns.length cN) ∧ w'.cell? ⟨bn, i * 7 + 2, none⟩ = some (.int .i64 0) ∧ w'.cell? ⟨bn, i * 7 + 3, none⟩ = some (.int .i64 1)) (go_keep) (fail)
                    all_goals
                      go_wp2_with fail
                      go_meet
                      case rel =>
                        have hset := ((HPW.out.setU 0 (.bool true)).setU 1 (.bool true)).below (Below.refl _ _).drew
                        rw [HUS0.out] at hset
                        refine ⟨rfl, ?_⟩
                        rw [HUS.out]
                        simpa using hset
                  · go_region_held3 (fun w' => w'.cell? ⟨g, 2, none⟩ = some (.slice (some ⟨bn, 0, none⟩) ns.length cN) ∧ w'.cell? ⟨bn, i * 7 + 2, none⟩ = some (.int .i64 0) ∧ w'.cell? ⟨bn, i * 7 + 3, none⟩ = some (.int .i64 2)) (go_keep) (fail)
                    all_goals
                      go_wp2_with fail
                      go_meet
                      case rel =>
                        have hset := ((HPW.out.setU 0 (.bool true)).setU 2 (.bool true)).below (Below.refl _ _).drew
                        rw [HUS0.out] at hset
                        refine ⟨rfl, ?_⟩
                        rw [HUS.out]
                        simpa using hset
                  · go_region_held3 (fun w' => w'.cell? ⟨g, 2, none⟩ = some (.slice (some ⟨bn, 0, none⟩) ns.length cN) ∧ w'.cell? ⟨bn, i * 7 + 2, none⟩ = some (.int .i64 1) ∧ w'.cell? ⟨bn, i * 7 + 3, none⟩ = some (.int .i64 0)) (go_keep) (fail)
                    all_goals
                      go_wp2_with fail
                      go_meet
                      case rel =>
                        have hset := ((HPW.out.setU 1 (.bool true)).setU 0 (.bool true)).below (Below.refl _ _).drew
                        rw [HUS0.out] at hset
                        refine ⟨rfl, ?_⟩
                        rw [HUS.out]
                        simpa using hset
                  · go_region_held3 (fun w' => w'.cell? ⟨g, 2, none⟩ = some (.slice (some ⟨bn, 0, none⟩) ns.length cN) ∧ w'.cell? ⟨bn, i * 7 + 2, none⟩ = some (.int .i64 1) ∧ w'.cell? ⟨bn, i * 7 + 3, none⟩ = some (.int .i64 1)) (go_keep) (fail)
                    all_goals
                      go_wp2_with fail
                      go_meet
                      case rel =>
                        have hset := ((HPW.out.setU 1 (.bool true)).setU 1 (.bool true)).below (Below.refl _ _).drew
                        rw [HUS0.out] at hset
                        refine ⟨rfl, ?_⟩
                        rw [HUS.out]
                        simpa using hset
                  · go_region_held3 (fun w' => w'.cell? ⟨g, 2, none⟩ = some (.slice (some ⟨bn, 0, none⟩) ns.length cN) ∧ w'.cell? ⟨bn, i * 7 + 2, none⟩ = some (.int .i64 1) ∧ w'.cell? ⟨bn, i * 7 + 3, none⟩ = some (.int .i64 2)) (go_keep) (fail)
                    all_goals
                      go_wp2_with fail
                      go_meet
                      case rel =>
                        have hset := ((HPW.out.setU 1 (.bool true)).setU 2 (.bool true)).below (Below.refl _ _).drew
                        rw [HUS0.out] at hset
                        refine ⟨rfl, ?_⟩
                        rw [HUS.out]
                        simpa using hset
                  · go_region_held3 (fun w' => w'.cell? ⟨g, 2, none⟩ = some (.slice (some ⟨bn, 0, none⟩) ns.length cN) ∧ w'.cell? ⟨bn, i * 7 + 2, none⟩ = some (.int .i64 2) ∧ w'.cell? ⟨bn, i * 7 + 3, none⟩ = some (.int .i64 0)) (go_keep) (fail)
                    all_goals
                      go_wp2_with fail
                      go_meet
                      case rel =>
                        have hset := ((HPW.out.setU 2 (.bool true)).setU 0 (.bool true)).below (Below.refl _ _).drew
                        rw [HUS0.out] at hset
                        refine ⟨rfl, ?_⟩
                        rw [HUS.out]
                        simpa using hset
                  · go_region_held3 (fun w' => w'.cell? ⟨g, 2, none⟩ = some (.slice (some ⟨bn, 0, none⟩) ns.length cN) ∧ w'.cell? ⟨bn, i * 7 + 2, none⟩ = some (.int .i64 2) ∧ w'.cell? ⟨bn, i * 7 + 3, none⟩ = some (.int .i64 1)) (go_keep) (fail)
                    all_goals
                      go_wp2_with fail
                      go_meet
                      case rel =>
                        have hset := ((HPW.out.setU 2 (.bool true)).setU 1 (.bool true)).below (Below.refl _ _).drew
                        rw [HUS0.out] at hset
                        refine ⟨rfl, ?_⟩
                        rw [HUS.out]
                        simpa using hset
                  · go_region_held3 (fun w' => w'.cell? ⟨g, 2, none⟩ = some (.slice (some ⟨bn, 0, none⟩) ns.length cN) ∧ w'.cell? ⟨bn, i * 7 + 2, none⟩ = some (.int .i64 2) ∧ w'.cell? ⟨bn, i * 7 + 3, none⟩ = some (.int .i64 2)) (go_keep) (fail)
                    all_goals
                      go_wp2_with fail
                      go_meet
                      case rel =>
                        have hset := ((HPW.out.setU 2 (.bool true)).setU 2 (.bool true)).below (Below.refl _ _).drew
                        rw [HUS0.out] at hset
                        refine ⟨rfl, ?_⟩
                        rw [HUS.out]
                        simpa using hset
                case rest => as_aux_lemma =>
                  obtain ⟨rfl, hP5⟩ := hcut
                  clear y0 y1 y2 y3 n0 n2 n3 hbn
                  obtain ⟨y0, y1, y2, y3⟩ := hP5.gcells
                  obtain ⟨bm, hbm, hbn, hat⟩ := hP5.node i hlt
                  injection hbm with hbm
                  injection hbm with hbm
                  subst hbm
                  have hk : ns[i].kind = q0 := by rw [← HX.out]
                  have n0 : wc.cell? ⟨bn, i * 7, none⟩ = some (.int .i64 ns[i].kind) := hat 0 (by omega)
                  rw [hk] at n0
                  have hgl5 := hP5.gb.lt
                  have HPX := Lib.hid hP5
                  clear hat hP5 hk
                  go_wp2_with fail
                  refine (busy_any HPX.out.gr (by omega) (by omega) (i : Int)).mono ?_
                  rintro e w3 ⟨rfl, hb3⟩
                  rw [HBY.out]
                  have HP3 := Lib.hid (HPX.out.below hb3)
                  clear hb3 y0 y1 y2 y3 n0
                  obtain ⟨y0, y1, y2, y3⟩ := HP3.out.gcells
                  go_wp2_with fail
                  refine (done_any HP3.out.gr (by omega) (by omega) (i : Int)).mono ?_
                  rintro e w4 ⟨rfl, hb4⟩
                  rw [HDN.out]
                  have HP4 := Lib.hid (HP3.out.below hb4)
                  clear hb4
                  go_wp2_with fail
                  go_roundw
                  case rel => exact ⟨i + 1, by omega, by go_num, by rw [HCN.out]; go_num, by rw [HFF.out], HP4.out⟩
                  case measure => simp [intOf]; omega
      · go_wp2_with fail
        go_meet
        case rel =>
          have hfin : i = ns.length := by omega
          subst hfin
          refine ⟨rfl, ?_, HPW.out⟩
          rw [List.take_of_length_le (Nat.le_refl _)]
  case rest => as_aux_lemma =>
    obtain ⟨rfl, rfl, hP⟩ := hcut
    have hT : cntN isTask ns ns.length = (placesFrom isTask ns 0).length := by rw [cntN_all _ _ _ (Nat.le_refl _), placesFrom_cnt]
    rw [hT]
    obtain ⟨tk, htk⟩ : ∃ tk, tk = (placesFrom isTask ns 0).length := ⟨_, rfl⟩
    obtain ⟨st, hst⟩ : ∃ st, st = findFrom isStart ns 0 := ⟨_, rfl⟩
    have htl := placesFrom_len isTask ns 0
    rw [← htk] at htl ⊢
    rw [← hst]
    have hTa : ∀ W1, PW w g U AP AM AN AE cN cE ns es (usedC ns ns.length) W1 → Calls Try.prog 29 #[.agg #[.slice AP 3 3, .slice AM 2 2, .slice AN ns.length cN, .slice AE es.length cE]] W1 fun e w' => ∃ A c, e = .returned (.slice A tk c) ∧ Below W1.heap.size W1 w' := fun W1 h => by
      rw [htk]
      exact (tasks_any h.gr.nodes (by omega)).mono fun _ _ ⟨A, c, he, _, hb⟩ => ⟨A, c, he, hb⟩
    have hPl : ∀ W1, PW w g U AP AM AN AE cN cE ns es (usedC ns ns.length) W1 → Calls Try.prog 30 #[.agg #[.slice AP 3 3, .slice AM 2 2, .slice AN ns.length cN, .slice AE es.length cE]] W1 fun e w' => e = .returned (.int .i64 ((es.length : Int) + 2 * tk)) ∧ Below W1.heap.size W1 w' := fun W1 h => by
      rw [htk]
      exact places_any h.gr (by omega) (by omega)
    have hSt : ∀ W1, PW w g U AP AM AN AE cN cE ns es (usedC ns ns.length) W1 → Calls Try.prog 31 #[.agg #[.slice AP 3 3, .slice AM 2 2, .slice AN ns.length cN, .slice AE es.length cE]] W1 fun e w' => e = .returned (.int .i64 st) ∧ Below W1.heap.size W1 w' := fun W1 h => by
      rw [hst]
      exact gstart_any h.gr (by omega)
    have hBu : ∀ W1, PW w g U AP AM AN AE cN cE ns es (usedC ns ns.length) W1 → Calls Try.prog 26 #[.agg #[.slice AP 3 3, .slice AM 2 2, .slice AN ns.length cN, .slice AE es.length cE], .int .i64 (-1)] W1 fun e w' => e = .returned (.int .i64 (-1)) ∧ Below W1.heap.size W1 w' := fun W1 h => by
      have := busy_any h.gr (by omega) (by omega) (-1)
      rwa [busyI_low] at this
    have hDo : ∀ W1, PW w g U AP AM AN AE cN cE ns es (usedC ns ns.length) W1 → Calls Try.prog 27 #[.agg #[.slice AP 3 3, .slice AM 2 2, .slice AN ns.length cN, .slice AE es.length cE], .int .i64 99] W1 fun e w' => e = .returned (.int .i64 (-1)) ∧ Below W1.heap.size W1 w' := fun W1 h => by
      have := done_any h.gr (by omega) (by omega) 99
      unfold doneI at this
      rw [busyI_high _ _ _ (by omega), if_pos (by omega)] at this
      exact this
    have HTA := Lib.hid hTa
    have HPL := Lib.hid hPl
    have HST := Lib.hid hSt
    have HBU := Lib.hid hBu
    have HDO := Lib.hid hDo
    have HP := Lib.hid hP
    obtain ⟨y0, y1, y2, y3⟩ := hP.gcells
    have hgl := hP.gb.lt
    clear hT htk hst hTa hPl hSt hBu hDo hP HPW0
    go_wp2_with fail
    refine (used_any HP.out.gr (by omega) (by omega)).mono ?_
    rintro e w3 ⟨A, c, rfl, hO, hb3⟩
    obtain ⟨ub, hub⟩ : ∃ ub, ub = usedB ns := ⟨_, rfl⟩
    rw [← hub] at hO ⊢
    obtain ⟨lu, hlu⟩ : ∃ lu, lu = (placesFrom ub (upto 3) 0).length := ⟨_, rfl⟩
    rw [← hlu] at hO ⊢
    have hul := upto_len 3
    have hu : ∀ (k : Nat) (_ : k < 3), ub (k : Int) = true → ∃ ba, A = some ⟨ba, 0, none⟩ ∧ w3.cell? ⟨ba, cntN ub (upto 3) k, none⟩ = some (.int .i64 k) ∧ cntN ub (upto 3) k < lu := fun k hk hp => by
      have hku : k < (upto 3).length := by omega
      rw [← upto_at 3 k hku] at hp
      have hlt := cntN_lt ub (upto 3) k hku hp
      rw [← hlu] at hlt
      obtain ⟨ba, hA, _, _, hcell⟩ := own_at (A := A) hO (by omega)
      refine ⟨ba, hA, ?_, hlt⟩
      rw [hcell _ (by omega), List.getElem?_map, placesFrom_at ub (upto 3) k 0 hku hp]
      simp
    have hst3 : ∀ (k : Nat) (_ : k < 3), cntN ub (upto 3) (k + 1) = cntN ub (upto 3) k + if ub (k : Int) = true then 1 else 0 := fun k hk => by
      have := cntN_step ub (upto 3) k (by omega)
      rwa [upto_at 3 k (by omega)] at this
    have hend : cntN ub (upto 3) 3 = lu := by rw [cntN_all _ _ _ (by omega), hlu, placesFrom_cnt]
    have hP3 := HP.out.below hb3
    have hcells : ∀ (k : Nat) (_ : k < 3), w3.cell? ⟨U, k, none⟩ = some (.bool (ub (k : Int))) := fun k hk => by
      rw [hP3.ub.cell, hub]
      unfold usedC usedB
      rw [List.take_of_length_le (Nat.le_refl _)]
      rcases (show k = 0 ∨ k = 1 ∨ k = 2 by omega) with rfl | rfl | rfl <;> rfl
    have HU := Lib.hid hu
    have HS3 := Lib.hid hst3
    have HEND := Lib.hid hend
    have HCE := Lib.hid hcells
    have HP3 := Lib.hid hP3
    have hul3 := hP3.ub.lt
    clear hu hst3 hend hcells hP3 hlu hul hub hO hb3 y0 y1 y2 y3 HP
    go_wp2_with fail
    go_loop [20, 21] (fun nv iv => ∃ k : Nat, k ≤ 3 ∧ iv = .int .i64 k ∧ nv = .int .i64 (cntN ub (upto 3) k : Nat)) (fun _ iv => 3 - (intOf iv).toNat)
    case atStart => exact ⟨0, by omega, rfl, rfl⟩
    case round =>
      obtain ⟨k, hk, rfl, rfl⟩ := hrel
      have hcl := cntN_le ub (upto 3) k
      by_cases hk3 : k < 3
      · have hk3i : (k : Int) < 3 := by omega
        have hk0i : (0 : Int) ≤ k := by omega
        have hc := HCE.out k hk3
        have hs := HS3.out k hk3
        have hu := HU.out k hk3
        generalize cntN ub (upto 3) k = n at *
        rcases hb : ub (k : Int) with _ | _
        · rw [hb] at hc hs
          rw [if_neg Bool.false_ne_true, Nat.add_zero] at hs
          have HSS := Lib.hid hs
          clear hs hu hb
          go_wp2_with fail
          go_round
          case rel => exact ⟨k + 1, by omega, by go_num, by rw [HSS.out]; rfl⟩
          case measure => simp [intOf]; omega
        · rw [hb] at hc hs hu
          rw [if_pos (rfl : true = true)] at hs
          obtain ⟨ba, rfl, hca, hlt⟩ := hu rfl
          have HSS := Lib.hid hs
          clear hs hu hb
          go_wp2_with fail
          go_round
          case rel => exact ⟨k + 1, by omega, by go_num, by rw [HSS.out]; go_num⟩
          case measure => simp [intOf]; omega
      · have hk3i : ¬ (k : Int) < 3 := by omega
        have hfin : cntN ub (upto 3) k = lu := by
          obtain rfl : k = 3 := by omega
          exact HEND.out
        rw [hfin] at hcl ⊢
        clear hfin HU HS3 HEND HCE
        go_wp2_with fail
        have hPl2 : ∀ W1, PW w g U AP AM AN AE cN cE ns es (usedC ns ns.length) W1 → Calls Try.prog 30 #[.agg #[.slice AP 3 3, .slice AM 2 2, .slice AN ns.length cN, .slice AE es.length cE]] W1 fun e w' => e = .returned (.int .i64 (IntKind.i64.wrap ((es.length : Int) + IntKind.i64.wrap (2 * (tk : Int))))) ∧ Below W1.heap.size W1 w' := fun W1 h => by
          have ws1 : IntKind.i64.wrap (2 * (tk : Int)) = 2 * tk := by rw [IntKind.wrap_i64]; omega
          have ws2 : IntKind.i64.wrap ((es.length : Int) + 2 * tk) = (es.length : Int) + 2 * tk := by rw [IntKind.wrap_i64]; omega
          rw [ws1, ws2]
          exact HPL.out W1 h
        have HPL2 := Lib.hid hPl2
        clear hPl2 HPL htl he14 hn8 hcl hk hk3 hk3i
        obtain ⟨y0, y1, y2, y3⟩ := HP3.out.gcells
        go_region_held3 (fun w' => w'.cell? ⟨g, 0, none⟩ = some (.slice AP 3 3) ∧ w'.cell? ⟨g, 1, none⟩ = some (.slice AM 2 2) ∧ w'.cell? ⟨g, 2, none⟩ = some (.slice AN ns.length cN) ∧ w'.cell? ⟨g, 3, none⟩ = some (.slice AE es.length cE))
          (first | with_reducible exact ga | with_reducible exact g9 | with_reducible exact g8 | with_reducible exact g7 | with_reducible exact g6 | with_reducible exact g5 | go_keep)
          ((first
          | (go_at_call 15; refine (graph_awake _).mono ?_; rintro e w5 ⟨rfl, hb5⟩; have HP5 := Lib.hid ((HP3.out.below (Below.refl _ _).drew).below hb5); have g5 := HP5.out.gcells)
          | (go_at_call 29; refine (HTA.out _ HP5.out).mono ?_; rintro e w6 ⟨A6, c6, rfl, hb6⟩; have HP6 := Lib.hid (HP5.out.below hb6); have g6 := HP6.out.gcells)
          | (go_at_call 30; refine (HPL2.out _ HP6.out).mono ?_; rintro e w7 ⟨rfl, hb7⟩; have HP7 := Lib.hid (HP6.out.below hb7); have g7 := HP7.out.gcells)
          | (go_at_call 31; refine (HST.out _ HP7.out).mono ?_; rintro e w8 ⟨rfl, hb8⟩; have HP8 := Lib.hid (HP7.out.below hb8); have g8 := HP8.out.gcells)
          | (go_at_call 26; refine (HBU.out _ HP8.out).mono ?_; rintro e w9 ⟨rfl, hb9⟩; have HP9 := Lib.hid (HP8.out.below hb9); have g9 := HP9.out.gcells)
          | (go_at_call 27; refine (HDO.out _ HP9.out).mono ?_; rintro e wa ⟨rfl, hba⟩; have HPA := Lib.hid (HP9.out.below hba); have ga := HPA.out.gcells)))
        all_goals
          go_wp2_with fail
          go_ret
          exact ⟨rfl, HPA.out.bel⟩
end Go.Proofs.Yteoioboiniealaa
