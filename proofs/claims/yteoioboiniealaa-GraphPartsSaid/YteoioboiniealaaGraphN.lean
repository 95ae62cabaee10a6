/- The walk of the law GraphCheck. -/
import Derived.Test.YteoioboiniealaaGraphM
import Derived.Deep.CutBlock
namespace Go.Proofs.Yteoioboiniealaa
open Go.RowKit

theorem chkN_task {x : GN} (hq : Q13 x) (h3 : x.kind = 3) : nodeB 3 2 x = decide (x.src ≠ x.dst ∧ x.msg ≤ 1) := by
  obtain ⟨h1, h2, h4, _⟩ := hq
  obtain ⟨a, b, c, d, e, f, g, h⟩ := h4 h3
  by_cases hc : x.src ≠ x.dst ∧ x.msg ≤ 1
  · rw [decide_eq_true hc]
    exact nodeB_iff.2 ⟨h1, h2, fun _ => ⟨a, by omega, c, by omega, hc.1, e, by omega, g, by omega⟩⟩
  · rw [decide_eq_false hc]
    refine nodeB_no fun hh => hc ?_
    have := hh.2.2 h3
    exact ⟨this.2.2.2.2.1, by omega⟩
theorem chkN_other {x : GN} (hq : Q13 x) (h3 : x.kind ≠ 3) : nodeB 3 2 x = true := nodeB_iff.2 ⟨hq.1, hq.2.1, fun h => absurd h h3⟩

theorem checkF_many (n : Nat) : checkF n 0 [] [] = if 16 < n then 5 else 9 := by
  unfold checkF
  split
  · rfl
  · rfl
theorem Try.infoStr : (Try.prog.info? 9).map (fun i => (i.zero, i.size, i.bytes)) = some (some (.string ⟨#[]⟩), 1, 16) := by kernel_rfl

/-- What holds at each round's head of the first loop. -/
def InChk1 (W : World) (ns : List GN) (es : List (Int × Int)) (wv sv iv : Value) (wr : World) : Prop :=
  ∃ (want s : Int) (i : Nat), wv = .int .i64 want ∧ sv = .int .i64 s ∧ iv = .int .i64 i ∧ i ≤ ns.length ∧ Below W.heap.size W wr ∧ 0 ≤ s ∧ s ≤ i ∧
    ((want = 0 ∧ chkN 3 2 es ns 0 = chkN 3 2 es (ns.drop i) i ∧ s = startsN (ns.take i)) ∨ (want ≠ 0 ∧ 0 < i ∧ want = chkN 3 2 es ns 0))
/-- What the two loops come to. -/
def wantE (ns : List GN) (es : List (Int × Int)) : Int := if chkN 3 2 es ns 0 ≠ 0 then chkN 3 2 es ns 0 else if es.all (edgeB ns.length) = false then 1 else 0
/-- What holds at each round's head of the second loop. -/
def InChk2 (V : World) (ns : List GN) (es : List (Int × Int)) (wv jv : Value) (wr : World) : Prop :=
  ∃ (want : Int) (j : Nat), wv = .int .i64 want ∧ jv = .int .i64 j ∧ j ≤ es.length ∧ Below V.heap.size V wr ∧
    ((want = 0 ∧ chkN 3 2 es ns 0 = 0 ∧ es.all (edgeB ns.length) = (es.drop j).all (edgeB ns.length)) ∨ (want ≠ 0 ∧ want = wantE ns es))
theorem checkF_of {ns : List GN} {es : List (Int × Int)} (hn : ns.length ≤ 8) (he : es.length ≤ 14) : checkF 3 2 ns es = if wantE ns es ≠ 0 then wantE ns es else if startsN ns ≠ 1 then 9 else 0 := by
  have ht := placesFrom_len isTask ns 0
  unfold checkF wantE
  rw [if_neg (by omega), if_neg (by omega)]
  by_cases hc : chkN 3 2 es ns 0 ≠ 0
  · simp [hc]
  · rw [if_neg hc, if_neg hc]
    split
    · simp
    · simp
/-- How memory stands behind the bend, g's block among the call's own. -/
def Bent (w : World) (g : Nat) (wx : World) : Prop :=
  ∃ (AP AM AN AE : Option Addr) (cN cE : Nat) (ns : List GN) (es : List (Int × Int)), ChkW w g AP AM AN AE cN cE ns es wx
/-- .. behind the first loop. -/
def Done1 (W : World) (ns : List GN) (es : List (Int × Int)) (wv sv : Value) (wx : World) : Prop :=
  ∃ want s : Int, wv = .int .i64 want ∧ sv = .int .i64 s ∧ Below W.heap.size W wx ∧ want = chkN 3 2 es ns 0 ∧ 0 ≤ s ∧ s ≤ 8 ∧ (want = 0 → s = startsN ns)

set_option maxHeartbeats 8000000 in
set_option maxRecDepth 100000 in
theorem graphCheck_walk (A0 : Option Addr) (c0 : Nat) (x0 : List Int) (A1 : Option Addr) (c1 : Nat) (x1 : List (Int × Int)) (a2 : Int) (w : World) (m0 : x0.length ≤ maxLen) (h0 : IntsAt w A0 x0) (m1 : x1.length ≤ maxLen) (h1 : PairsAt w A1 x1) (_w2 : (Lit.int .i64 a2).wf = true) :
    Calls Try.prog 4 #[.slice A0 x0.length c0, .slice A1 x1.length c1, .int .i64 a2] w fun e w' => e = .returned (.bool true) ∧ Below w.heap.size w w' := by
  have HAny := Lib.hid (any_any (w := w) (cA := c0) (cB := c1) a2 x0 x1 h0 m0 h1 m1)
  clear _w2 h0 h1 m0 m1
  go_enter Try.func4, Try.ntmps4
  go_wp2_with fail
  refine HAny.out.mono ?_
  rintro e w1 ⟨vN, vE, ns, es, rfl, haw, hn8, he14, hqn, hqe⟩
  obtain ⟨AN, cN, rfl, _, _⟩ := own_slice haw.nodes
  obtain ⟨AE, cE, rfl, _, _⟩ := own_slice haw.edges
  have HAW := Lib.hid haw
  have HQN := Lib.hid hqn
  have HQE := Lib.hid hqe
  have hsz := haw.sz
  clear haw hqn hqe HAny
  go_upto_region 2 with fail
  obtain ⟨vo, vo0, vo1, voe⟩ : ∃ a, 0 ≤ a ∧ a ≤ 15 ∧ bits BinOp.and IntKind.i64 a2 15 = a := ⟨_, (am15 _).1, (am15 _).2, rfl⟩
  have hgb := Blk.new w1 44 #[.slice (some ⟨w.heap.size + 1, 0, none⟩) 3 3, .slice (some ⟨w.heap.size + 1 + 1, 0, none⟩) 2 2, .slice AN ns.length cN, .slice AE es.length cE]
  have hawW := HAW.out.alloc (.cells #[.slice (some ⟨w.heap.size + 1, 0, none⟩) 3 3, .slice (some ⟨w.heap.size + 1 + 1, 0, none⟩) 2 2, .slice AN ns.length cN, .slice AE es.length cE] 44)
  generalize w1.alloc (.cells #[.slice (some ⟨w.heap.size + 1, 0, none⟩) 3 3, .slice (some ⟨w.heap.size + 1 + 1, 0, none⟩) 2 2, .slice AN ns.length cN, .slice AE es.length cE] 44) = W1 at *
  generalize w1.heap.size = g at *
  have g2 := hgb.cell 2
  have g3 := hgb.cell 3
  simp only [List.getElem?_toArray, List.getElem?_cons_zero, List.getElem?_cons_succ] at g2 g3
  have HGB := Lib.hid hgb
  have HAWW := Lib.hid hawW
  clear hgb hawW
  go_cut [30] (fun s30 wx => ∃ bb : Bool, s30 = .bool bb ∧ (bb = true → 0 < es.length) ∧ wx = W1)
  case first =>
    rcases ho : (vo == 10) with _ | _
    · go_wp2_with fail
      go_meet
      case rel => exact ⟨false, rfl, by simp, rfl⟩
    · by_cases hl : 0 < es.length
      · go_wp2_with fail
        go_meet
        case rel => exact ⟨true, rfl, fun _ => hl, rfl⟩
      · go_wp2_with fail
        go_meet
        case rel => exact ⟨false, rfl, by simp, rfl⟩
  case rest =>
    obtain ⟨bb, rfl, hbb, rfl⟩ := hcut
    go_upto_if 30 with fail
    go_cut [7] (fun s7 wx => s7 = .pointer (some ⟨g, 0, none⟩) ∧ Bent w g wx)
    case first =>
      cases bb
      · go_wp2_with fail
        go_meet
        case rel => exact ⟨rfl, _, _, AN, AE, cN, cE, ns, es, HAWW.out.bel, HAWW.out.gr, HGB.out, hn8, he14, HQN.out, fun x hx => ⟨(HQE.out x hx).1, (HQE.out x hx).2.1, (HQE.out x hx).2.2.1, by have := (HQE.out x hx).2.2.2; omega⟩⟩
      · have hpos := hbb rfl
        obtain ⟨b, rfl, hbl, _, hcell⟩ := own_at HAWW.out.edges hpos
        obtain ⟨⟨f, t⟩, rest, rfl⟩ : ∃ x l, es = x :: l := by
          cases es with
          | nil => simp at hpos
          | cons x l => exact ⟨x, l, rfl⟩
        have z1 : _ = some (Value.int .i64 t) := hcell 1 (by simp; omega)
        have z2 := HAWW.out.edges.frozenAt 1
        clear hcell hbb hpos
        go_wp2_with fail
        go_meet
        case rel =>
          obtain ⟨r1, r2, r3⟩ := gr_bend HAWW.out HGB.out ns.length
          refine ⟨rfl, _, _, AN, _, cN, cE, ns, (f, ns.length) :: rest, HAWW.out.bel.setCell (by simp; omega) _, r1, r2, hn8, by simpa using he14, HQN.out, ?_⟩
          intro x hx
          rcases List.mem_cons.1 hx with h | h
          · have := HQE.out (f, t) (by simp)
            rw [h]
            exact ⟨this.1, this.2.1, by simp, by simp⟩
          · have := HQE.out x (by simp [h])
            exact ⟨this.1, this.2.1, this.2.2.1, by have := this.2.2.2; omega⟩
    case rest =>
      obtain ⟨rfl, AP, AM, AN, AE, cN, cE, ns, es, hC⟩ := hcut
      have g0 := hC.gb.cell 0
      have g1 := hC.gb.cell 1
      have g2 := hC.gb.cell 2
      have g3 := hC.gb.cell 3
      simp only [List.getElem?_toArray, List.getElem?_cons_zero, List.getElem?_cons_succ] at g0 g1 g2 g3
      have hglt := hC.gb.lt
      have hn8 := hC.hn
      have he14 := hC.he
      have HC := Lib.hid hC
      clear hC HAWW HGB HQN HQE HAW
      obtain ⟨W, rfl⟩ : ∃ W : World, W = wc := ⟨_, rfl⟩
      go_upto_block 0 with fail
      go_cut [8, 9] (fun s8 s9 wx => Done1 W ns es s8 s9 wx)
      case first =>
        go_wp2_with fail
        go_loopw [8, 9, 10] (fun wv sv iv wr => InChk1 W ns es wv sv iv wr) (fun _ _ iv _ => ns.length - (intOf iv).toNat)
        case atStart => exact ⟨0, 0, 0, rfl, rfl, rfl, Nat.zero_le _, Below.refl _ _, by omega, by omega, .inl ⟨rfl, rfl, rfl⟩⟩
        case round =>
          obtain ⟨want, s, i, rfl, rfl, rfl, hil, hB, hs0, hs1, hcase⟩ := hrel
          have hszr := hB.size
          have hgr : g < wr.heap.size := by omega
          have y0 := (hB.cell (p := ⟨g, 0, none⟩) hglt).trans g0
          have y1 := (hB.cell (p := ⟨g, 1, none⟩) hglt).trans g1
          have y2 := (hB.cell (p := ⟨g, 2, none⟩) hglt).trans g2
          have y3 := (hB.cell (p := ⟨g, 3, none⟩) hglt).trans g3
          have HB := Lib.hid hB
          clear hB
          rcases hcase with ⟨rfl, hinv, hs⟩ | ⟨hw0, hi0, hw⟩
          · by_cases hlt : i < ns.length
            · obtain ⟨b, rfl, hbl, _, hcell⟩ := own_at HC.out.gr.nodes (by omega)
              have hat : ∀ j, j < 7 → wr.cell? ⟨b, i * 7 + j, none⟩ = (cellsN ns[i])[j]? := fun j hj => (HB.out.cell (p := ⟨b, i * 7 + j, none⟩) hbl).trans ((hcell _ (by omega)).trans (flatN_at ns i hlt j hj))
              have n0 : wr.cell? ⟨b, i * 7, none⟩ = some (.int .i64 ns[i].kind) := hat 0 (by omega)
              have n1 : wr.cell? ⟨b, i * 7 + 1, none⟩ = some (.string ns[i].id) := hat 1 (by omega)
              have n2 : wr.cell? ⟨b, i * 7 + 2, none⟩ = some (.int .i64 ns[i].src) := hat 2 (by omega)
              have n3 : wr.cell? ⟨b, i * 7 + 3, none⟩ = some (.int .i64 ns[i].dst) := hat 3 (by omega)
              have n4 : wr.cell? ⟨b, i * 7 + 4, none⟩ = some (.int .i64 ns[i].msg) := hat 4 (by omega)
              have n5 : wr.cell? ⟨b, i * 7 + 5, none⟩ = some (.int .i64 ns[i].reply) := hat 5 (by omega)
              have n6 : wr.cell? ⟨b, i * 7 + 6, none⟩ = some (.bool ns[i].again) := hat 6 (by omega)
              have hi := hinv
              rw [List.drop_eq_getElem_cons hlt, chkN] at hi
              have hst := startsN_take ns i hlt
              have hq : Q13 ns[i] := HC.out.qn _ (List.getElem_mem hlt)
              clear hat hcell hinv
              generalize ns[i] = x at *
              obtain ⟨q0, q1, q2, q3, q4, q5, q6⟩ := x
              simp only at n0 n1 n2 n3 n4 n5 n6 hi hst
              have HI := Lib.hid hi
              have HS := Lib.hid hs
              have HST := Lib.hid hst
              have HQ := Lib.hid hq
              clear hi hs hst hq
              obtain ⟨pin, hpin⟩ : ∃ p : Int × Int → Bool, p = fun x : Int × Int => x.2 == (i : Int) := ⟨_, rfl⟩
              obtain ⟨pout, hpout⟩ : ∃ p : Int × Int → Bool, p = fun x : Int × Int => x.1 == (i : Int) := ⟨_, rfl⟩
              have HPI := Lib.hid hpin
              have HPO := Lib.hid hpout
              clear hpin hpout
              go_wp2_with fail
              have hbe : ∀ k (h : k < es.length), ∃ be, AE = some ⟨be, 0, none⟩ ∧ be < wr.heap.size ∧ wr.cell? ⟨be, k * 2, none⟩ = some (.int .i64 es[k].1) ∧ wr.cell? ⟨be, k * 2 + 1, none⟩ = some (.int .i64 es[k].2) := fun k hk => by
                obtain ⟨be, hAE, hbel, _, hcell⟩ := own_at (A := AE) HC.out.gr.edges (by omega)
                obtain ⟨f1, f2⟩ := flatE_at es k hk
                exact ⟨be, hAE, by omega, (HB.out.cell (p := ⟨be, k * 2, none⟩) hbel).trans ((hcell _ (by omega)).trans f1), (HB.out.cell (p := ⟨be, k * 2 + 1, none⟩) hbel).trans ((hcell _ (by omega)).trans f2)⟩
              have HBE := Lib.hid hbe
              clear hbe
              go_loop [12, 13, 14] (fun inv outv kv => ∃ k : Nat, k ≤ es.length ∧ kv = .int .i64 k ∧ inv = .int .i64 (cntN pin es k : Nat) ∧ outv = .int .i64 (cntN pout es k : Nat)) (fun _ _ kv => es.length - (intOf kv).toNat)
              case atStart => exact ⟨0, Nat.zero_le _, rfl, rfl, rfl⟩
              case round =>
                obtain ⟨k, hk, rfl, rfl, rfl⟩ := hrel
                have hli := cntN_le pin es k
                have hlo := cntN_le pout es k
                by_cases hkl : k < es.length
                · obtain ⟨be, rfl, hbel, e1, e2⟩ := HBE.out k hkl
                  have hsi := cntN_step pin es k hkl
                  have hso := cntN_step pout es k hkl
                  rw [show pin es[k] = (es[k].2 == (i : Int)) by rw [HPI.out]] at hsi
                  rw [show pout es[k] = (es[k].1 == (i : Int)) by rw [HPO.out]] at hso
                  obtain ⟨v1, hv1⟩ : ∃ v1, v1 = es[k].1 := ⟨_, rfl⟩
                  obtain ⟨v2, hv2⟩ : ∃ v2, v2 = es[k].2 := ⟨_, rfl⟩
                  rw [← hv1] at e1 hso
                  rw [← hv2] at e2 hsi
                  clear hv1 hv2
                  generalize cntN pin es k = a at *
                  generalize cntN pout es k = o at *
                  rcases t2 : (v2 == (i : Int)) with _ | _
                  all_goals
                    rcases t1 : (v1 == (i : Int)) with _ | _
                    all_goals
                      rw [t2] at hsi
                      rw [t1] at hso
                      have HSI := Lib.hid hsi
                      have HSO := Lib.hid hso
                      clear hsi hso
                      go_wp2_with fail
                      go_round
                      case rel => exact ⟨k + 1, by omega, by go_num, by rw [HSI.out]; go_num, by rw [HSO.out]; go_num⟩
                      case measure => simp [intOf]; omega
                · have hki : cntN pin es k = inN es i := by
                    obtain rfl : k = es.length := by omega
                    rw [inN_cnt, HPI.out]
                  have hko : cntN pout es k = outN es i := by
                    obtain rfl : k = es.length := by omega
                    rw [outN_cnt, HPO.out]
                  have hi := HI.out
                  rw [← hki, ← hko] at hi
                  generalize cntN pin es k = a at *
                  generalize cntN pout es k = o at *
                  clear hki hko HBE HPI HPO HI
                  have hst := HST.out
                  rcases h3b : (q0 == 3) with _ | _
                  · have hk3 : q0 ≠ 3 := by simpa using h3b
                    rw [chkN_other HQ.out hk3, if_neg (by simp), h3b] at hi
                    rcases h1b : (q0 == 1) with _ | _
                    · rw [h1b, if_neg (by simp)] at hi
                      rw [h1b, if_neg (by simp), Nat.add_zero] at hst
                      have hs2 : s = ((startsN (ns.take (i + 1)) : Nat) : Int) := by rw [hst]; exact HS.out
                      have HI2 := Lib.hid hi
                      have HS2 := Lib.hid hs2
                      clear hi hst hs2
                      go_wp2_with fail
                      go_roundw
                      case rel => exact ⟨0, s, i + 1, rfl, rfl, by go_num, by omega, HB.out.alloc hszr _, hs0, by omega, .inl ⟨rfl, HI2.out, HS2.out⟩⟩
                      case measure => simp [intOf]; omega
                    · rw [h1b] at hi
                      by_cases ha : 0 < a
                      · rw [if_pos (by simp [ha])] at hi
                        clear hst
                        have HI2 := Lib.hid hi
                        clear hi
                        go_wp2_with fail
                        go_roundw
                        case rel => exact ⟨9, s, i + 1, rfl, rfl, by go_num, by omega, HB.out.alloc hszr _, hs0, by omega, .inr ⟨by omega, by omega, HI2.out.symm⟩⟩
                        case measure => simp [intOf]; omega
                      · rcases hob : ((o : Int) != 1) with _ | _
                        · have ho1 : o = 1 := by
                            have : (o : Int) = 1 := by simpa using hob
                            omega
                          rw [if_neg (by simp [ha, ho1])] at hi
                          clear ho1
                          rw [h1b, if_pos rfl] at hst
                          have hs2 : s + 1 = ((startsN (ns.take (i + 1)) : Nat) : Int) := by rw [hst]; have := HS.out; omega
                          have HI2 := Lib.hid hi
                          have HS2 := Lib.hid hs2
                          clear hi hst hs2
                          go_wp2_with fail
                          go_roundw
                          case rel => exact ⟨0, s + 1, i + 1, rfl, rfl, by go_num, by omega, HB.out.alloc hszr _, by omega, by omega, .inl ⟨rfl, HI2.out, HS2.out⟩⟩
                          case measure => simp [intOf]; omega
                        · have ho1 : o ≠ 1 := by
                            intro h
                            simp [h] at hob
                          rw [if_pos (by simp [ho1])] at hi
                          clear ho1 hst
                          have HI2 := Lib.hid hi
                          clear hi
                          go_wp2_with fail
                          go_roundw
                          case rel => exact ⟨9, s, i + 1, rfl, rfl, by go_num, by omega, HB.out.alloc hszr _, hs0, by omega, .inr ⟨by omega, by omega, HI2.out.symm⟩⟩
                          case measure => simp [intOf]; omega
                  · have hk3 : q0 = 3 := by simpa using h3b
                    have h1b : (q0 == 1) = false := by simp [hk3]
                    rw [chkN_task HQ.out hk3] at hi
                    rw [h1b, h3b] at hi
                    clear hk3
                    rcases hsd : (q2 == q3) with _ | _
                    · have hsd2 : q2 ≠ q3 := by simpa using hsd
                      by_cases hm : 1 < q4
                      · rw [if_pos (by simp; omega)] at hi
                        clear hsd2 hst
                        have HI2 := Lib.hid hi
                        clear hi
                        go_wp2_with fail
                        go_roundw
                        case rel => exact ⟨1, s, i + 1, rfl, rfl, by go_num, by omega, HB.out.alloc hszr _, hs0, by omega, .inr ⟨by omega, by omega, HI2.out.symm⟩⟩
                        case measure => simp [intOf]; omega
                      · rw [if_neg (by simp [hsd2]; omega)] at hi
                        clear hsd2
                        rcases hob : ((o : Int) != 1) with _ | _
                        · have ho1 : o = 1 := by
                            have : (o : Int) = 1 := by simpa using hob
                            omega
                          rw [if_neg (by simp [ho1])] at hi
                          clear ho1
                          rw [h1b, if_neg (by simp), Nat.add_zero] at hst
                          have hs2 : s = ((startsN (ns.take (i + 1)) : Nat) : Int) := by rw [hst]; exact HS.out
                          have HI2 := Lib.hid hi
                          have HS2 := Lib.hid hs2
                          clear hi hst hs2
                          go_wp2_with fail
                          go_roundw
                          case rel => exact ⟨0, s, i + 1, rfl, rfl, by go_num, by omega, HB.out.alloc hszr _, hs0, by omega, .inl ⟨rfl, HI2.out, HS2.out⟩⟩
                          case measure => simp [intOf]; omega
                        · have ho1 : o ≠ 1 := by
                            intro h
                            simp [h] at hob
                          rw [if_pos (by simp [ho1])] at hi
                          clear ho1 hst
                          have HI2 := Lib.hid hi
                          clear hi
                          go_wp2_with fail
                          go_roundw
                          case rel => exact ⟨9, s, i + 1, rfl, rfl, by go_num, by omega, HB.out.alloc hszr _, hs0, by omega, .inr ⟨by omega, by omega, HI2.out.symm⟩⟩
                          case measure => simp [intOf]; omega
                    · have hsd2 : q2 = q3 := by simpa using hsd
                      rw [if_pos (by simp [hsd2])] at hi
                      clear hsd2 hst
                      have HI2 := Lib.hid hi
                      clear hi
                      go_wp2_with fail
                      go_roundw
                      case rel => exact ⟨1, s, i + 1, rfl, rfl, by go_num, by omega, HB.out.alloc hszr _, hs0, by omega, .inr ⟨by omega, by omega, HI2.out.symm⟩⟩
                      case measure => simp [intOf]; omega
            · have hfin : Done1 W ns es (.int .i64 0) (.int .i64 s) wr := by
                rw [List.drop_eq_nil_of_le (by omega), chkN] at hinv
                rw [List.take_of_length_le (by omega)] at hs
                exact ⟨0, s, rfl, rfl, HB.out, hinv.symm, hs0, by omega, fun _ => hs⟩
              have HF := Lib.hid hfin
              clear hfin hinv hs
              go_wp2_with fail
              go_meet
              case rel => exact HF.out
          · have hfin : Done1 W ns es (.int .i64 want) (.int .i64 s) wr := ⟨want, s, rfl, rfl, HB.out, hw, hs0, by omega, fun h => absurd h hw0⟩
            have HF := Lib.hid hfin
            have hwb : (want == 0) = false := by simpa using hw0
            clear hfin hw
            by_cases hlt : i < ns.length
            all_goals
              go_wp2_with fail
              go_meet
              case rel => exact HF.out
      case rest =>
        obtain ⟨want, s, rfl, rfl, hB1, hw, hs0, hs8, hs⟩ := hcut
        have hszc := hB1.size
        have z0 := (hB1.cell (p := ⟨g, 0, none⟩) hglt).trans g0
        have z1 := (hB1.cell (p := ⟨g, 1, none⟩) hglt).trans g1
        have z2 := (hB1.cell (p := ⟨g, 2, none⟩) hglt).trans g2
        have z3 := (hB1.cell (p := ⟨g, 3, none⟩) hglt).trans g3
        have HB1 := Lib.hid hB1
        have HW := Lib.hid hw
        have HS := Lib.hid hs
        clear hB1 hw hs g0 g1 g2 g3
        obtain ⟨V, rfl⟩ : ∃ V : World, V = wc := ⟨_, rfl⟩
        have hgV : g < V.heap.size := by omega
        go_upto_block 5 with fail
        go_cut [8] (fun s8 wx => ∃ want : Int, s8 = .int .i64 want ∧ Below V.heap.size V wx ∧ want = wantE ns es)
        case first =>
          go_wp2_with fail
          go_loopw [8, 15] (fun wv jv wr => InChk2 V ns es wv jv wr) (fun _ jv _ => es.length - (intOf jv).toNat)
          case atStart =>
            refine ⟨want, 0, rfl, rfl, Nat.zero_le _, Below.refl _ _, ?_⟩
            by_cases h0 : want = 0
            · exact .inl ⟨h0, by rw [← HW.out]; exact h0, rfl⟩
            · refine .inr ⟨h0, ?_⟩
              unfold wantE
              rw [← HW.out, if_pos h0]
          case round =>
            obtain ⟨want, j, rfl, rfl, hjl, hB2, hcase⟩ := hrel
            have hsz2 := hB2.size
            have y2 := (hB2.cell (p := ⟨g, 2, none⟩) hgV).trans z2
            have y3 := (hB2.cell (p := ⟨g, 3, none⟩) hgV).trans z3
            have HB2 := Lib.hid hB2
            clear hB2
            rcases hcase with ⟨rfl, hch, hall⟩ | ⟨hw0, hw⟩
            · have HCH := Lib.hid hch
              clear hch
              by_cases hlt : j < es.length
              · obtain ⟨be, rfl, hbel, _, hcell⟩ := own_at HC.out.gr.edges (by omega)
                obtain ⟨f1, f2⟩ := flatE_at es j hlt
                have e2 := (HB2.out.cell (p := ⟨be, j * 2 + 1, none⟩) (by simp; omega)).trans ((HB1.out.cell (p := ⟨be, j * 2 + 1, none⟩) hbel).trans ((hcell _ (by omega)).trans f2))
                have hq := HC.out.qe _ (List.getElem_mem hlt)
                have hed : edgeB ns.length es[j] = decide (0 ≤ es[j].1 ∧ es[j].1 < ns.length ∧ 0 ≤ es[j].2 ∧ es[j].2 < ns.length) := rfl
                obtain ⟨q1, q2, q3, q4⟩ := hq
                rw [List.drop_eq_getElem_cons hlt, List.all_cons] at hall
                have hed2 : edgeB ns.length es[j] = decide (es[j].2 < ns.length) := by
                  rw [hed]
                  congr 1
                  rw [eq_iff_iff]
                  exact ⟨fun h => h.2.2.2, fun h => ⟨q1, q2, q3, h⟩⟩
                rw [hed2] at hall
                clear hed hed2 f1 f2 hcell q1 q2 q3 q4
                generalize es[j].2 = v2 at *
                have hj0 : (0 : Int) ≤ j := by omega
                have hj1 : (j : Int) < es.length := by omega
                by_cases hc : (ns.length : Int) ≤ v2
                · rw [decide_eq_false (by omega), Bool.false_and] at hall
                  have HAL := Lib.hid hall
                  clear hall
                  go_wp2_with fail
                  go_quiet (fail)
                  go_wp2_with fail
                  go_roundw
                  case rel =>
                    refine ⟨1, j + 1, rfl, by go_num, by omega, below_drewN HB2.out _, .inr ⟨by omega, ?_⟩⟩
                    unfold wantE
                    rw [if_neg (by rw [HCH.out]; simp), if_pos HAL.out]
                  case measure => simp [intOf]; omega
                · rw [decide_eq_true (by omega), Bool.true_and] at hall
                  have HAL := Lib.hid hall
                  clear hall
                  go_wp2_with fail
                  go_quiet (fail)
                  go_wp2_with fail
                  go_roundw
                  case rel => exact ⟨0, j + 1, rfl, by go_num, by omega, below_drewN HB2.out _, .inl ⟨rfl, HCH.out, HAL.out⟩⟩
                  case measure => simp [intOf]; omega
              · rw [List.drop_eq_nil_of_le (by omega), List.all_nil] at hall
                have HAL := Lib.hid hall
                clear hall
                go_wp2_with fail
                go_meet
                case rel => exact ⟨0, rfl, HB2.out, by unfold wantE; rw [if_neg (by rw [HCH.out]; simp), if_neg (by rw [HAL.out]; simp)]⟩
            · have hwb : (want == 0) = false := by simpa using hw0
              have HWE := Lib.hid hw
              clear hw hw0
              by_cases hlt : j < es.length
              all_goals
                go_wp2_with fail
                go_meet
                case rel => exact ⟨want, rfl, HB2.out, HWE.out⟩
        case rest =>
          obtain ⟨want, rfl, hB2, hw⟩ := hcut
          have HB2 := Lib.hid hB2
          have hs2 := hB2.size
          have HWE := Lib.hid hw
          clear hB2 hw z0 z1 z2 z3
          have hfw := checkF_of hn8 he14
          rw [← HWE.out] at hfw
          go_upto_region 27 with fail
          go_cut [150] (fun s150 wx => ∃ bb : Bool, s150 = .bool bb ∧ bb = ((want == 0) && (s != 1)) ∧ wx = wc)
          case first =>
            clear hfw
            rcases hwb : (want == 0) with _ | _
            · go_wp2_with fail
              go_meet
              case rel => exact ⟨false, rfl, by rw [hwb]; rfl, rfl⟩
            · rcases hsb : (s != 1) with _ | _
              all_goals
                go_wp2_with fail
                go_meet
                case rel => exact ⟨_, rfl, by rw [hwb, hsb]; rfl, rfl⟩
          case rest =>
            obtain ⟨bb, rfl, hbb, rfl⟩ := hcut
            have hs' : want = 0 → s = startsN ns := fun h => HS.out (by
              have h1 := HW.out
              have h2 := HWE.out
              unfold wantE at h2
              by_cases hc : chkN 3 2 es ns 0 = 0
              · omega
              · rw [if_pos hc] at h2; omega)
            cases bb
            · have HFW : Hid (checkF 3 2 ns es = want) := by
                show checkF 3 2 ns es = want
                rw [hfw]
                by_cases hw0 : want = 0
                · have h1 : s = 1 := by simpa [hw0] using hbb.symm
                  rw [if_neg (by omega), if_neg (by have := hs' hw0; omega), hw0]
                · rw [if_pos hw0]
              clear hfw hbb hs'
              obtain ⟨v, v0, v1, ve⟩ : ∃ a, 0 ≤ a ∧ a ≤ 3 ∧ bits BinOp.and IntKind.i64 a2 3 = a := ⟨_, (am3 _).1, (am3 _).2, rfl⟩
              obtain ⟨n, hn⟩ : ∃ n : Nat, (n : Int) = 15 + v := ⟨(15 + v).toNat, by omega⟩
              have hmk : ∀ W : World, (Instr.makeSlice 30 (.int .i64 (15 + v)) (.int .i64 (15 + v))).run Try.prog W = .ok (.slice (some ⟨W.heap.size, 0, none⟩) n n) (W.alloc (.cells (madeCells #[.string ⟨#[]⟩] n) 9)) := fun W => by
                obtain ⟨i0, hi0, hz0, hz1, hz2⟩ := info_parts Try.infoStr
                have h := run_make (P := Try.prog) W 30 9 i0 (.string ⟨#[]⟩) Try.underlying30 hi0 hz0 .i64 .i64 (15 + v) (15 + v) (by omega) (by omega) (by rw [hz2]; omega) (by omega)
                rw [show (15 + v).toNat = n by omega, hz1, Nat.mul_one] at h
                exact h
              have hn18 : n ≤ 18 := by omega
              have hms : (madeCells #[.string ⟨#[]⟩] n).size = n := size_madeCells _ _
              have hmany : ∀ W : World, Gr (W.alloc (.cells (madeCells #[.string ⟨#[]⟩] n) 9)) (some ⟨W.heap.size, 0, none⟩) none none none n 0 0 0 n 0 [] [] := fun W =>
                ⟨⟨_, World.ownsRow_lit (base := 0) (size := 1) W (madeCells #[.string ⟨#[]⟩] n) n (by omega) (by unfold maxLen; omega) (by omega)⟩, ⟨[], World.ownsRow_nil _ _ _ _⟩, World.ownsRow_nil _ _ _ _, World.ownsRow_nil _ _ _ _⟩
              have HMK := Lib.hid hmk
              have HMANY := Lib.hid hmany
              have HN := Lib.hid hn
              have hbelg : Below W.heap.size W wc := HB1.out.trans (HB2.out.mono (by omega))
              have HBG := Lib.hid hbelg
              clear hmany hms hbelg
              by_cases hbig : 16 < n
              all_goals
                have hbi : (decide ((16 : Int) < n)) = (decide (16 < n)) := by congr 1; rw [eq_iff_iff]; omega
                clear hbi
                have hck := checkF_many n
                first | rw [if_pos hbig] at hck | rw [if_neg hbig] at hck
                have HCK := Lib.hid hck
                clear hck hn
                go_wp2_with fail
                refine (check_any ((HMANY.out wc).below ((Below.refl _ _).alloc (Nat.le_refl _) _)) (by simp) (by simp)).mono ?_
                rintro e w4 ⟨rfl, hb4⟩
                rw [HCK.out]
                obtain ⟨k0, k1, k2, k3⟩ := cells4 hb4 (by simp) (heap_alloc_new (wc.alloc (.cells (madeCells #[.string ⟨#[]⟩] n) 9)) _)
                have hb4' : Below wc.heap.size wc w4 := (((Below.refl _ _).alloc (Nat.le_refl _) _).alloc (by simp) _).trans (hb4.mono (by simp; omega))
                have hs4 : wc.heap.size + 1 + 1 ≤ w4.heap.size := by have := hb4.size; simpa using this
                have HB4 := Lib.hid hb4'
                clear hb4 hb4'
                simp only [World.size_alloc] at k0 k1 k2 k3
                go_wp2_with fail
                refine (graph_awake _).mono ?_
                rintro e w5 ⟨rfl, hb5⟩
                have kk0 := (hb5.cell (p := ⟨wc.heap.size + 1, 0, none⟩) (by simp; omega)).trans k0
                have gg := HC.out.gb.below (HBG.out.trans ((HB4.out.trans (hb5.mono HB4.out.size)).mono HBG.out.size)) hglt
                have p0 := gg.cell 0
                have p1 := gg.cell 1
                have p2 := gg.cell 2
                have p3 := gg.cell 3
                simp only [List.getElem?_toArray, List.getElem?_cons_zero, List.getElem?_cons_succ] at p0 p1 p2 p3
                have hgr5 := HC.out.gr.below (HBG.out.trans ((HB4.out.trans (hb5.mono HB4.out.size)).mono HBG.out.size))
                have HGR5 := Lib.hid hgr5
                have HB5 := Lib.hid (HB4.out.trans (hb5.mono HB4.out.size))
                have hs5 := hb5.size
                clear hb5 gg hgr5 k0 k1 k2 k3
                go_wp2_with fail
                refine (check_any HGR5.out (by omega) (by omega)).mono ?_
                rintro e w6 ⟨rfl, hb6⟩
                rw [HFW.out]
                have kk6 := (hb6.cell (p := ⟨wc.heap.size + 1, 0, none⟩) (by simp; omega)).trans kk0
                have HB6 := Lib.hid (HB5.out.trans (hb6.mono HB5.out.size))
                clear hb6 p0 p1 p2 p3 kk0
                go_wp2_with fail
                go_ret
                refine ⟨ret_bool ?_, HC.out.bel.trans ((HBG.out.trans (HB6.out.mono HBG.out.size)).mono HC.out.bel.size)⟩
                simp <;> omega
            · have hw0 : want = 0 ∧ s ≠ 1 := by simpa using hbb.symm
              have HFW : Hid (checkF 3 2 ns es = 9) := by
                show checkF 3 2 ns es = 9
                rw [hfw, if_neg (by omega), if_pos (by have := hs' hw0.1; omega)]
              clear hfw hbb hs' hw0
              obtain ⟨v, v0, v1, ve⟩ : ∃ a, 0 ≤ a ∧ a ≤ 3 ∧ bits BinOp.and IntKind.i64 a2 3 = a := ⟨_, (am3 _).1, (am3 _).2, rfl⟩
              obtain ⟨n, hn⟩ : ∃ n : Nat, (n : Int) = 15 + v := ⟨(15 + v).toNat, by omega⟩
              have hmk : ∀ W : World, (Instr.makeSlice 30 (.int .i64 (15 + v)) (.int .i64 (15 + v))).run Try.prog W = .ok (.slice (some ⟨W.heap.size, 0, none⟩) n n) (W.alloc (.cells (madeCells #[.string ⟨#[]⟩] n) 9)) := fun W => by
                obtain ⟨i0, hi0, hz0, hz1, hz2⟩ := info_parts Try.infoStr
                have h := run_make (P := Try.prog) W 30 9 i0 (.string ⟨#[]⟩) Try.underlying30 hi0 hz0 .i64 .i64 (15 + v) (15 + v) (by omega) (by omega) (by rw [hz2]; omega) (by omega)
                rw [show (15 + v).toNat = n by omega, hz1, Nat.mul_one] at h
                exact h
              have hn18 : n ≤ 18 := by omega
              have hms : (madeCells #[.string ⟨#[]⟩] n).size = n := size_madeCells _ _
              have hmany : ∀ W : World, Gr (W.alloc (.cells (madeCells #[.string ⟨#[]⟩] n) 9)) (some ⟨W.heap.size, 0, none⟩) none none none n 0 0 0 n 0 [] [] := fun W =>
                ⟨⟨_, World.ownsRow_lit (base := 0) (size := 1) W (madeCells #[.string ⟨#[]⟩] n) n (by omega) (by unfold maxLen; omega) (by omega)⟩, ⟨[], World.ownsRow_nil _ _ _ _⟩, World.ownsRow_nil _ _ _ _, World.ownsRow_nil _ _ _ _⟩
              have HMK := Lib.hid hmk
              have HMANY := Lib.hid hmany
              have HN := Lib.hid hn
              have hbelg : Below W.heap.size W wc := HB1.out.trans (HB2.out.mono (by omega))
              have HBG := Lib.hid hbelg
              clear hmany hms hbelg
              by_cases hbig : 16 < n
              all_goals
                have hbi : (decide ((16 : Int) < n)) = (decide (16 < n)) := by congr 1; rw [eq_iff_iff]; omega
                clear hbi
                have hck := checkF_many n
                first | rw [if_pos hbig] at hck | rw [if_neg hbig] at hck
                have HCK := Lib.hid hck
                clear hck hn
                go_wp2_with fail
                refine (check_any ((HMANY.out wc).below ((Below.refl _ _).alloc (Nat.le_refl _) _)) (by simp) (by simp)).mono ?_
                rintro e w4 ⟨rfl, hb4⟩
                rw [HCK.out]
                obtain ⟨k0, k1, k2, k3⟩ := cells4 hb4 (by simp) (heap_alloc_new (wc.alloc (.cells (madeCells #[.string ⟨#[]⟩] n) 9)) _)
                have hb4' : Below wc.heap.size wc w4 := (((Below.refl _ _).alloc (Nat.le_refl _) _).alloc (by simp) _).trans (hb4.mono (by simp; omega))
                have hs4 : wc.heap.size + 1 + 1 ≤ w4.heap.size := by have := hb4.size; simpa using this
                have HB4 := Lib.hid hb4'
                clear hb4 hb4'
                simp only [World.size_alloc] at k0 k1 k2 k3
                go_wp2_with fail
                refine (graph_awake _).mono ?_
                rintro e w5 ⟨rfl, hb5⟩
                have kk0 := (hb5.cell (p := ⟨wc.heap.size + 1, 0, none⟩) (by simp; omega)).trans k0
                have gg := HC.out.gb.below (HBG.out.trans ((HB4.out.trans (hb5.mono HB4.out.size)).mono HBG.out.size)) hglt
                have p0 := gg.cell 0
                have p1 := gg.cell 1
                have p2 := gg.cell 2
                have p3 := gg.cell 3
                simp only [List.getElem?_toArray, List.getElem?_cons_zero, List.getElem?_cons_succ] at p0 p1 p2 p3
                have hgr5 := HC.out.gr.below (HBG.out.trans ((HB4.out.trans (hb5.mono HB4.out.size)).mono HBG.out.size))
                have HGR5 := Lib.hid hgr5
                have HB5 := Lib.hid (HB4.out.trans (hb5.mono HB4.out.size))
                have hs5 := hb5.size
                clear hb5 gg hgr5 k0 k1 k2 k3
                go_wp2_with fail
                refine (check_any HGR5.out (by omega) (by omega)).mono ?_
                rintro e w6 ⟨rfl, hb6⟩
                rw [HFW.out]
                have kk6 := (hb6.cell (p := ⟨wc.heap.size + 1, 0, none⟩) (by simp; omega)).trans kk0
                have HB6 := Lib.hid (HB5.out.trans (hb6.mono HB5.out.size))
                clear hb6 p0 p1 p2 p3 kk0
                go_wp2_with fail
                go_ret
                refine ⟨ret_bool ?_, HC.out.bel.trans ((HBG.out.trans (HB6.out.mono HBG.out.size)).mono HC.out.bel.size)⟩
                simp <;> omega
end Go.Proofs.Yteoioboiniealaa
