/- The contracts of the table's chor, of ids.New, Has, Len. -/
import Derived.Test.YtljmghaplnkohaaIdsAB
namespace Go.Proofs.Ytljmghaplnkohaa
open Go.RowKit
attribute [local go_sem ↓] Go.wp_at_zero Go.wp_at_succ

/-- What holds at each round's head: ids of a list are added, something else comes behind them; a block of the call's own is kept. -/
def InLp (wB W : World) (g gc : Nat) (t : TypeId) (cs : Array Value) (ids rest : List ByteArray) (r : Int × List ByteArray) (iv : Value) (wr : World) : Prop :=
  ∃ (k : Nat) (l1 : List ByteArray), k ≤ ids.length ∧ iv = .int .i64 k ∧ Hid (addsF l1 (ids.drop k ++ rest) = r ∧ IdsFit l1 (ids.drop k ++ rest)) ∧ TabW wB g l1 wr ∧ ChT [9, 85] W wr ∧ Blk wr gc t cs
set_option maxRecDepth 100000 in
set_option maxHeartbeats 8000000 in
theorem ichor_any {wB W : World} {g : Nat} {l : List ByteArray} (c : ChorD) {AP : Option Addr} {cP : Nat} {AF : Option Addr} {cF : Nat} {AI : Option Addr} {cI : Nat} {AS : Option Addr} {cS : Nat} (hc : Comp wB c.parts c.flows c.items c.seqs AP cP AF cF AI cI AS cS)
    (hfit : IdsFit l (idsC c)) (hT : TabW wB g l W) :
    Calls Try.prog 35 #[.pointer (some ⟨g, 0, none⟩), .agg #[.string c.id, .slice AP c.parts.length cP, .slice AF c.flows.length cF, .slice AI c.items.length cI, .slice AS c.seqs.length cS]] W fun e w' => e = .returned (.int .i64 (addsF l (idsC c)).1) ∧ TabW wB g (addsF l (idsC c)).2 w' ∧ ChT [9, 85] W w' := by
  obtain ⟨r, hr⟩ : ∃ r, r = addsF l (idsC c) := ⟨_, rfl⟩
  rw [← hr]
  unfold idsC at hr hfit
  obtain ⟨hf1, hf2, hf3⟩ := fit_cons hfit
  obtain ⟨_, _, _, hpl1, hpl2, _⟩ := rd_at partC_len hc.parts
  obtain ⟨_, _, _, hfl1, hfl2, _⟩ := rd_at flowC_len hc.flows
  have hpm : c.parts.length ≤ maxLen := by omega
  have hfm : c.flows.length ≤ maxLen := by omega
  unfold maxLen at hpm hfm
  obtain ⟨gc, hgc⟩ : ∃ g, g = W.heap.size := ⟨_, rfl⟩
  obtain ⟨T, hTT⟩ : ∃ T, T = W.alloc (.cells #[.string c.id, .slice AP c.parts.length cP, .slice AF c.flows.length cF, .slice AI c.items.length cI, .slice AS c.seqs.length cS] 54) := ⟨_, rfl⟩
  have bT : Below W.heap.size W T := by rw [hTT]; exact (Below.refl _ _).alloc (Nat.le_refl _) _
  have hbc : Blk T gc 54 #[.string c.id, .slice AP c.parts.length cP, .slice AF c.flows.length cF, .slice AI c.items.length cI, .slice AS c.seqs.length cS] := by rw [hTT, hgc]; exact Blk.new _ _ _
  have hT1 := hT.below bT
  have hcall := add_any c.id hf1 hf2 hT1
  obtain ⟨a, ha⟩ : ∃ a, a = addF l c.id := ⟨_, rfl⟩
  rw [← ha] at hcall hf3
  have x0 : T.cell? ⟨gc, 0, none⟩ = some (.string c.id) := hbc.cell 0
  have HCALL := Lib.hid hcall
  have HD := Lib.hid hc
  have HBC := Lib.hid hbc
  have HC := Lib.hid (ChT.of_below (ts := [9, 85]) bT)
  have HTT := Lib.hid hTT.symm
  have HGC := Lib.hid hgc.symm
  have HR := Lib.hid hr.symm
  have HF3 := Lib.hid hf3
  have HA := Lib.hid ha
  clear hr hfit hf1 hf2 hf3 hgc hTT bT hbc hT1 hT hcall hc ha hpl1 hpl2 hfl1 hfl2
  go_enter Try.func35, Try.ntmps35
  go_upto_region 1 with fail
  rw [HTT.out, HGC.out]
  clear HTT
  go_wp2_with fail
  refine HCALL.out.mono ?_
  rintro e w1 ⟨rfl, hT2, hc2⟩
  have hB2 := HBC.out.ch hc2 (by decide)
  have hC2 := HC.out.trans hc2
  have hrr := HR.out
  clear x0 HCALL HBC HC hc2
  by_cases hz : a.1 = 0
  · rw [addsF_cons0 (by rw [← HA.out]; exact hz), ← HA.out] at hrr
    have hf3 := HF3.out
    clear HA HF3
    obtain ⟨az, l1⟩ := a
    dsimp only at hz hrr hf3 hT2 ⊢
    subst hz
    have HN := Lib.hid (And.intro hrr hf3)
    have HT := Lib.hid hT2
    have HC := Lib.hid hC2
    have HBC := Lib.hid hB2
    have x1 : w1.cell? ⟨gc, 1, none⟩ = some (.slice AP c.parts.length cP) := hB2.cell 1
    clear hrr hf3 hT2 hC2 hB2 HR
    go_wp2_with fail
    clear x1
    go_loopw [22] (fun iv wr => InLp wB W g gc 54 #[.string c.id, .slice AP c.parts.length cP, .slice AF c.flows.length cF, .slice AI c.items.length cI, .slice AS c.seqs.length cS] (c.parts.map (·.id)) (c.flows.map (·.id) ++ (idsL c.items ++ c.seqs.map (·.id))) r iv wr) (fun iv _ => c.parts.length - (intOf iv).toNat)
    case atStart => exact ⟨0, l1, Nat.zero_le _, rfl, HN.out, HT.out, HC.out, HBC.out⟩
    case round =>
      clear HN HT HC HBC
      obtain ⟨j, l2, hj, rfl, hinv, hT, hC, hB⟩ := hrel
      obtain ⟨V, rfl⟩ : ∃ V, V = wr := ⟨_, rfl⟩
      rw [List.length_map] at hj
      have HC := Lib.hid hC
      have HBC := Lib.hid hB
      clear hC hB
      by_cases hlt : j < c.parts.length
      · obtain ⟨Ax, cx, hvx, _, _, hat⟩ := rd_at partC_len HD.out.parts
        injection hvx with e1 _ e3
        subst e1
        subst e3
        obtain ⟨b, vs, rfl, hb, _, hvs, hcell⟩ := hat j hlt
        obtain ⟨q, hq⟩ : ∃ q, q = c.parts[j] := ⟨_, rfl⟩
        have hd : (c.parts.map (·.id)).drop j = q.id :: (c.parts.map (·.id)).drop (j + 1) := by rw [hq, List.drop_eq_getElem_cons (by simpa using hlt)]; simp
        rw [← hq] at hvs
        obtain rfl := rd_partC hvs
        obtain ⟨hinv1, hinv2⟩ := hinv.out
        rw [hd, List.cons_append] at hinv1 hinv2
        obtain ⟨hf1, hf2, hf3⟩ := fit_cons hinv2
        have hx0 := hT.bel
        have e0 := (hx0.cell (p := ⟨b, j * 2, none⟩) hb).trans (show wB.cell? ⟨b, j * 2, none⟩ = some (.string q.id) from hcell 0 (by omega))
        have e1 := (hx0.cell (p := ⟨b, j * 2 + 1, none⟩) hb).trans (show wB.cell? ⟨b, j * 2 + 1, none⟩ = some (.string q.name) from hcell 1 (by omega))
        have hcall := fun o => add_any q.id hf1 hf2 (hT.below ((Below.refl V.heap.size V).alloc (Nat.le_refl _) o))
        have HCALL := Lib.hid hcall
        have HN := Lib.hid (And.intro hinv1 hf3)
        have hjI : (j : Int) < (c.parts.length : Int) := by omega
        clear hT hat hvs hcell hq hd hinv hinv1 hinv2 hf1 hf2 hf3 hcall hx0
        go_wp2_with fail
        refine (HCALL.out _).mono ?_
        rintro e w3 ⟨rfl, hT3, hc3⟩
        obtain ⟨a, ha⟩ : ∃ a, a = addF l2 q.id := ⟨_, rfl⟩
        obtain ⟨hn1, hn2⟩ := HN.out
        rw [← ha] at hT3 hn2 ⊢
        have hC3 := (HC.out.alloc _).trans hc3
        have hB3 := (HBC.out.alloc _).ch hc3 (by decide)
        clear e0 e1 HCALL HC HBC HN hc3
        by_cases hz : a.1 = 0
        · rw [addsF_cons0 (by rw [← ha]; exact hz), ← ha] at hn1
          clear ha
          obtain ⟨az, al⟩ := a
          dsimp only at hz hn1 hn2 hT3 ⊢
          subst hz
          have HN := Lib.hid (And.intro hn1 hn2)
          have HT3 := Lib.hid hT3
          have HC3 := Lib.hid hC3
          have HB3 := Lib.hid hB3
          clear hn1 hn2 hT3 hC3 hB3
          go_wp2_with fail
          go_roundw
          case rel => exact ⟨j + 1, al, by rw [List.length_map]; omega, by go_num, HN, HT3.out, HC3.out, HB3.out⟩
          case measure => simp [intOf]; omega
        · have hzb : (a.1 == 0) = false := by simp [hz]
          rw [addsF_consN (by rw [← ha]; exact hz), ← ha] at hn1
          have HN := Lib.hid hn1
          have HT3 := Lib.hid hT3
          have HC3 := Lib.hid hC3
          have HB3 := Lib.hid hB3
          clear hn1 hn2 hT3 hC3 hB3 ha hz
          go_wp2_with fail
          go_ret
          rw [← HN.out]
          exact ⟨rfl, HT3.out, HC3.out⟩
      · obtain ⟨hinv1, hinv2⟩ := hinv.out
        rw [List.drop_eq_nil_of_le (by simp; omega), List.nil_append] at hinv1 hinv2
        have HN := Lib.hid (And.intro hinv1 hinv2)
        have HT := Lib.hid hT
        clear hinv hinv1 hinv2 hT
        obtain ⟨l1, rfl⟩ : ∃ l, l = l2 := ⟨_, rfl⟩
        have x2 : V.cell? ⟨gc, 2, none⟩ = some (.slice AF c.flows.length cF) := HBC.out.cell 2
        go_wp2_with fail
        clear x2
        go_loopw [37] (fun iv wr => InLp wB W g gc 54 #[.string c.id, .slice AP c.parts.length cP, .slice AF c.flows.length cF, .slice AI c.items.length cI, .slice AS c.seqs.length cS] (c.flows.map (·.id)) (idsL c.items ++ c.seqs.map (·.id)) r iv wr) (fun iv _ => c.flows.length - (intOf iv).toNat)
        case atStart => exact ⟨0, l1, Nat.zero_le _, rfl, HN.out, HT.out, HC.out, HBC.out⟩
        case round =>
          clear HN HT HC HBC
          obtain ⟨j, l2, hj, rfl, hinv, hT, hC, hB⟩ := hrel
          obtain ⟨V, rfl⟩ : ∃ V, V = wr := ⟨_, rfl⟩
          rw [List.length_map] at hj
          have HC := Lib.hid hC
          have HBC := Lib.hid hB
          clear hC hB
          by_cases hlt : j < c.flows.length
          · obtain ⟨Ax, cx, hvx, _, _, hat⟩ := rd_at flowC_len HD.out.flows
            injection hvx with e1 _ e3
            subst e1
            subst e3
            obtain ⟨b, vs, rfl, hb, _, hvs, hcell⟩ := hat j hlt
            obtain ⟨q, hq⟩ : ∃ q, q = c.flows[j] := ⟨_, rfl⟩
            have hd : (c.flows.map (·.id)).drop j = q.id :: (c.flows.map (·.id)).drop (j + 1) := by rw [hq, List.drop_eq_getElem_cons (by simpa using hlt)]; simp
            rw [← hq] at hvs
            obtain rfl := rd_flowC hvs
            obtain ⟨hinv1, hinv2⟩ := hinv.out
            rw [hd, List.cons_append] at hinv1 hinv2
            obtain ⟨hf1, hf2, hf3⟩ := fit_cons hinv2
            have hx0 := hT.bel
            have e0 := (hx0.cell (p := ⟨b, j * 4, none⟩) hb).trans (show wB.cell? ⟨b, j * 4, none⟩ = some (.string q.id) from hcell 0 (by omega))
            have e1 := (hx0.cell (p := ⟨b, j * 4 + 1, none⟩) hb).trans (show wB.cell? ⟨b, j * 4 + 1, none⟩ = some (.string q.src) from hcell 1 (by omega))
            have e2 := (hx0.cell (p := ⟨b, j * 4 + 2, none⟩) hb).trans (show wB.cell? ⟨b, j * 4 + 2, none⟩ = some (.string q.dst) from hcell 2 (by omega))
            have e3 := (hx0.cell (p := ⟨b, j * 4 + 3, none⟩) hb).trans (show wB.cell? ⟨b, j * 4 + 3, none⟩ = some (.string q.msg) from hcell 3 (by omega))
            have hcall := fun o => add_any q.id hf1 hf2 (hT.below ((Below.refl V.heap.size V).alloc (Nat.le_refl _) o))
            have HCALL := Lib.hid hcall
            have HN := Lib.hid (And.intro hinv1 hf3)
            have hjI : (j : Int) < (c.flows.length : Int) := by omega
            clear hT hat hvs hcell hq hd hinv hinv1 hinv2 hf1 hf2 hf3 hcall hx0
            go_wp2_with fail
            refine (HCALL.out _).mono ?_
            rintro e w3 ⟨rfl, hT3, hc3⟩
            obtain ⟨a, ha⟩ : ∃ a, a = addF l2 q.id := ⟨_, rfl⟩
            obtain ⟨hn1, hn2⟩ := HN.out
            rw [← ha] at hT3 hn2 ⊢
            have hC3 := (HC.out.alloc _).trans hc3
            have hB3 := (HBC.out.alloc _).ch hc3 (by decide)
            clear e0 e1 e2 e3 HCALL HC HBC HN hc3
            by_cases hz : a.1 = 0
            · rw [addsF_cons0 (by rw [← ha]; exact hz), ← ha] at hn1
              clear ha
              obtain ⟨az, al⟩ := a
              dsimp only at hz hn1 hn2 hT3 ⊢
              subst hz
              have HN := Lib.hid (And.intro hn1 hn2)
              have HT3 := Lib.hid hT3
              have HC3 := Lib.hid hC3
              have HB3 := Lib.hid hB3
              clear hn1 hn2 hT3 hC3 hB3
              go_wp2_with fail
              go_roundw
              case rel => exact ⟨j + 1, al, by rw [List.length_map]; omega, by go_num, HN, HT3.out, HC3.out, HB3.out⟩
              case measure => simp [intOf]; omega
            · have hzb : (a.1 == 0) = false := by simp [hz]
              rw [addsF_consN (by rw [← ha]; exact hz), ← ha] at hn1
              have HN := Lib.hid hn1
              have HT3 := Lib.hid hT3
              have HC3 := Lib.hid hC3
              have HB3 := Lib.hid hB3
              clear hn1 hn2 hT3 hC3 hB3 ha hz
              go_wp2_with fail
              go_ret
              rw [← HN.out]
              exact ⟨rfl, HT3.out, HC3.out⟩
          · obtain ⟨hinv1, hinv2⟩ := hinv.out
            rw [List.drop_eq_nil_of_le (by simp; omega), List.nil_append] at hinv1 hinv2
            have HN := Lib.hid (And.intro hinv1 hinv2)
            have HT := Lib.hid hT
            clear hinv hinv1 hinv2 hT
            obtain ⟨l1, rfl⟩ : ∃ l, l = l2 := ⟨_, rfl⟩
            have x3 : V.cell? ⟨gc, 3, none⟩ = some (.slice AI c.items.length cI) := HBC.out.cell 3
            have x4 : V.cell? ⟨gc, 4, none⟩ = some (.slice AS c.seqs.length cS) := HBC.out.cell 4
            have hlev := ilevel_any (depL c.items) c.items c.seqs (Nat.le_refl _) l1 V _ _ HN.out.2 HT.out HD.out.items HD.out.seqs
            rw [HN.out.1] at hlev
            have HLEV := Lib.hid hlev
            clear hlev HT HN
            go_wp2_with fail
            refine HLEV.out.mono ?_
            rintro e w3 ⟨rfl, hT3, hc3⟩
            have hC3 := HC.out.trans hc3
            go_wp2_with fail
            go_ret
            exact ⟨rfl, hT3, hC3⟩
  · have hzb : (a.1 == 0) = false := by simp [hz]
    rw [addsF_consN (by rw [← HA.out]; exact hz), ← HA.out] at hrr
    have HN := Lib.hid hrr
    have HT3 := Lib.hid hT2
    have HC3 := Lib.hid hC2
    clear hrr hT2 hC2 hB2 hz HF3 HR HA
    go_wp2_with fail
    go_ret
    rw [← HN.out]
    exact ⟨rfl, HT3.out, HC3.out⟩
/-- What ids.New hands back: a table, or what is wrong first. -/
def NewEnd (w : World) (r : Int × List ByteArray) (e : Ending) (w' : World) : Prop :=
  (r.1 ≠ 0 ∧ e = .returned (.tuple #[.pointer none, .int .i64 r.1]) ∧ Below w.heap.size w w') ∨
    (r.1 = 0 ∧ ∃ g, e = .returned (.tuple #[.pointer (some ⟨g, 0, none⟩), .int .i64 0]) ∧ TabW w g r.2 w')
def InCh (wB : World) (g : Nat) (l : List ChorD) (r : Int × List ByteArray) (iv : Value) (wr : World) : Prop :=
  ∃ (k : Nat) (l1 : List ByteArray), k ≤ l.length ∧ iv = .int .i64 k ∧ Hid (addsF l1 (idsCs (l.drop k)) = r ∧ IdsFit l1 (idsCs (l.drop k))) ∧ TabW wB g l1 wr
theorem ret_new {W : World} {x y : Value} {tmps : Array Value} (hx : tmps.getD 2 undef = x) (hy : tmps.getD 3 undef = y) : (results Try.f15 tmps).run Try.prog W = .ok (.tuple #[x, y]) W := by
  simp [results, Try.results15, go_sem, hx, hy, -Array.getD_eq_getD_getElem?]
set_option maxRecDepth 100000 in
set_option maxHeartbeats 8000000 in
theorem new_any {wB : World} (d : DocD) {A1 B1 : Option Addr} {c1 k1 : Nat} (hm : Rd wB (msgsD d.msgs) (.slice A1 d.msgs.length c1)) (hcs : Rd wB (chorsD d.chors) (.slice B1 d.chors.length k1)) (hfit : IdsFit [] (idsD d)) :
    Calls Try.prog 15 #[.agg #[.slice A1 d.msgs.length c1, .slice B1 d.chors.length k1]] wB (NewEnd wB (addsF [] (idsD d))) := by
  obtain ⟨r, hr⟩ : ∃ r, r = addsF [] (idsD d) := ⟨_, rfl⟩
  rw [← hr]
  unfold idsD at hr hfit
  obtain ⟨_, _, _, hml1, hml2, _⟩ := rd_at partC_len hm
  obtain ⟨_, _, _, hcl1, hcl2, _⟩ := rd_at chorC_len hcs
  have hmm : d.msgs.length ≤ maxLen := by omega
  have hcm : d.chors.length ≤ maxLen := by omega
  unfold maxLen at hmm hcm
  obtain ⟨gc, hgc⟩ : ∃ g, g = wB.heap.size := ⟨_, rfl⟩
  obtain ⟨g, hg⟩ : ∃ g, g = wB.heap.size + 1 := ⟨_, rfl⟩
  obtain ⟨W, hW⟩ : ∃ T, T = (wB.alloc (.cells #[.slice A1 d.msgs.length c1, .slice B1 d.chors.length k1] 42)).alloc (.cells #[.slice none 0 0] 85) := ⟨_, rfl⟩
  have bT : Below wB.heap.size wB W := by rw [hW]; exact ((Below.refl _ _).alloc (Nat.le_refl _) _).alloc (by simp) _
  have hbc : Blk W gc 42 #[.slice A1 d.msgs.length c1, .slice B1 d.chors.length k1] := by rw [hW, hgc]; exact (Blk.new _ _ _).alloc _
  have hbt : Blk W g 85 #[.slice none 0 0] := by
    have := Blk.new (wB.alloc (.cells #[.slice A1 d.msgs.length c1, .slice B1 d.chors.length k1] 42)) 85 #[.slice none 0 0]
    rw [hW, hg]
    simpa using this
  have hT : TabW wB g [] W := ⟨bT, ⟨_, hbt, World.ownsRow_nil _ _ _ _⟩, by omega⟩
  have x0 : W.cell? ⟨gc, 0, none⟩ = some (.slice A1 d.msgs.length c1) := hbc.cell 0
  obtain ⟨l1, hl1⟩ : ∃ l : List ByteArray, l = [] := ⟨_, rfl⟩
  rw [← hl1] at hr hfit hT
  have HN := Lib.hid (And.intro hr.symm hfit)
  have HT := Lib.hid hT
  have HC := Lib.hid (ChT.refl [9, 85] W)
  have HBC := Lib.hid hbc
  have HM := Lib.hid hm
  have HCS := Lib.hid hcs
  have HW := Lib.hid hW.symm
  have HGC := Lib.hid hgc.symm
  have HG := Lib.hid (show gc + 1 = g by omega)
  clear hr hfit hT hbc hbt bT hW hgc hg hm hcs hl1 hml1 hml2 hcl1 hcl2
  go_enter Try.func15, Try.ntmps15
  go_upto_region 2 with fail
  rw [HW.out, HGC.out, HG.out]
  clear HW
  go_wp2_with fail
  clear x0
  go_loopw [16] (fun iv wr => InLp wB W g gc 42 #[.slice A1 d.msgs.length c1, .slice B1 d.chors.length k1] (d.msgs.map (·.id)) (idsCs d.chors) r iv wr) (fun iv _ => d.msgs.length - (intOf iv).toNat)
  case atStart => exact ⟨0, l1, Nat.zero_le _, rfl, HN.out, HT.out, HC.out, HBC.out⟩
  case round =>
    clear HN HT HC HBC
    obtain ⟨j, l2, hj, rfl, hinv, hT, hC, hB⟩ := hrel
    obtain ⟨V, rfl⟩ : ∃ V, V = wr := ⟨_, rfl⟩
    rw [List.length_map] at hj
    have HC := Lib.hid hC
    have HBC := Lib.hid hB
    clear hC hB
    by_cases hlt : j < d.msgs.length
    · obtain ⟨Ax, cx, hvx, _, _, hat⟩ := rd_at partC_len HM.out
      injection hvx with e1 _ e3
      subst e1
      subst e3
      obtain ⟨b, vs, rfl, hb, _, hvs, hcell⟩ := hat j hlt
      obtain ⟨q, hq⟩ : ∃ q, q = d.msgs[j] := ⟨_, rfl⟩
      have hd : (d.msgs.map (·.id)).drop j = q.id :: (d.msgs.map (·.id)).drop (j + 1) := by rw [hq, List.drop_eq_getElem_cons (by simpa using hlt)]; simp
      rw [← hq] at hvs
      obtain rfl := rd_partC hvs
      obtain ⟨hinv1, hinv2⟩ := hinv.out
      rw [hd, List.cons_append] at hinv1 hinv2
      obtain ⟨hf1, hf2, hf3⟩ := fit_cons hinv2
      have hx0 := hT.bel
      have e0 := (hx0.cell (p := ⟨b, j * 2, none⟩) hb).trans (show wB.cell? ⟨b, j * 2, none⟩ = some (.string q.id) from hcell 0 (by omega))
      have e1 := (hx0.cell (p := ⟨b, j * 2 + 1, none⟩) hb).trans (show wB.cell? ⟨b, j * 2 + 1, none⟩ = some (.string q.name) from hcell 1 (by omega))
      have hcall := fun o => add_any q.id hf1 hf2 (hT.below ((Below.refl V.heap.size V).alloc (Nat.le_refl _) o))
      have HCALL := Lib.hid hcall
      have HN := Lib.hid (And.intro hinv1 hf3)
      have hjI : (j : Int) < (d.msgs.length : Int) := by omega
      clear hT hat hvs hcell hq hd hinv hinv1 hinv2 hf1 hf2 hf3 hcall hx0
      go_wp2_with fail
      refine (HCALL.out _).mono ?_
      rintro e w3 ⟨rfl, hT3, hc3⟩
      obtain ⟨a, ha⟩ : ∃ a, a = addF l2 q.id := ⟨_, rfl⟩
      obtain ⟨hn1, hn2⟩ := HN.out
      rw [← ha] at hT3 hn2 ⊢
      have hC3 := (HC.out.alloc _).trans hc3
      have hB3 := (HBC.out.alloc _).ch hc3 (by decide)
      clear e0 e1 HCALL HC HBC HN hc3
      by_cases hz : a.1 = 0
      · rw [addsF_cons0 (by rw [← ha]; exact hz), ← ha] at hn1
        clear ha
        obtain ⟨az, al⟩ := a
        dsimp only at hz hn1 hn2 hT3 ⊢
        subst hz
        have HN := Lib.hid (And.intro hn1 hn2)
        have HT3 := Lib.hid hT3
        have HC3 := Lib.hid hC3
        have HB3 := Lib.hid hB3
        clear hn1 hn2 hT3 hC3 hB3
        go_wp2_with fail
        go_roundw
        case rel => exact ⟨j + 1, al, by rw [List.length_map]; omega, by go_num, HN, HT3.out, HC3.out, HB3.out⟩
        case measure => simp [intOf]; omega
      · have hzb : (a.1 == 0) = false := by simp [hz]
        rw [addsF_consN (by rw [← ha]; exact hz), ← ha] at hn1
        have HN := Lib.hid hn1
        have HT3 := Lib.hid hT3
        have HC3 := Lib.hid hC3
        have HB3 := Lib.hid hB3
        clear hn1 hn2 hT3 hC3 hB3 ha hz
        go_wp2_with fail
        have hnz : a.1 ≠ 0 := by simpa using hzb
        have hre : a = r := HN.out
        subst hre
        exact bodyPost_ret (ret_new rfl rfl) rfl (.inl ⟨hnz, rfl, HT3.out.bel⟩)
    · obtain ⟨hinv1, hinv2⟩ := hinv.out
      rw [List.drop_eq_nil_of_le (by simp; omega), List.nil_append] at hinv1 hinv2
      have HN := Lib.hid (And.intro hinv1 hinv2)
      have HT := Lib.hid hT
      clear hinv hinv1 hinv2 hT
      obtain ⟨l1, rfl⟩ : ∃ l, l = l2 := ⟨_, rfl⟩
      have x1 : V.cell? ⟨gc, 1, none⟩ = some (.slice B1 d.chors.length k1) := HBC.out.cell 1
      go_wp2_with fail
      clear x1
      go_loopw [31] (fun iv wr => InCh wB g d.chors r iv wr) (fun iv _ => d.chors.length - (intOf iv).toNat)
      case atStart => exact ⟨0, l1, Nat.zero_le _, rfl, HN.out, HT.out⟩
      case round =>
        clear HN HT HC HBC
        obtain ⟨m, l3, hm, rfl, hinv, hT⟩ := hrel
        obtain ⟨V3, rfl⟩ : ∃ V, V = wr := ⟨_, rfl⟩
        by_cases hlt3 : m < d.chors.length
        · obtain ⟨Ax, cx, hvx, _, _, hat⟩ := rd_at chorC_len HCS.out
          injection hvx with e1 _ e3
          subst e1
          subst e3
          obtain ⟨b, vs, rfl, hb, _, hvs, hcell⟩ := hat m hlt3
          obtain ⟨q, hq⟩ : ∃ q, q = d.chors[m] := ⟨_, rfl⟩
          have hd : d.chors.drop m = q :: d.chors.drop (m + 1) := by rw [hq]; exact List.drop_eq_getElem_cons hlt3
          rw [← hq] at hvs
          obtain ⟨vP, vF, vI, vS, rfl, hV⟩ := rd_chorC.1 hvs
          obtain ⟨AP, cP, rfl⟩ := rd_form hV.1
          obtain ⟨AF, cF, rfl⟩ := rd_form hV.2.1
          obtain ⟨AI, cI, rfl⟩ := rd_form hV.2.2.1
          obtain ⟨AS, cS, rfl⟩ := rd_form hV.2.2.2
          have hcomp : Comp wB q.parts q.flows q.items q.seqs AP cP AF cF AI cI AS cS := ⟨hV.1, hV.2.1, hV.2.2.1, hV.2.2.2⟩
          obtain ⟨hinv1, hinv2⟩ := hinv.out
          rw [hd, show idsCs (q :: d.chors.drop (m + 1)) = idsC q ++ idsCs (d.chors.drop (m + 1)) from rfl] at hinv1 hinv2
          obtain ⟨hf1, hf2⟩ := fit_append hinv2
          have hx0 := hT.bel
          have e0 := (hx0.cell (p := ⟨b, m * 5, none⟩) hb).trans (show wB.cell? ⟨b, m * 5, none⟩ = some (.string q.id) from hcell 0 (by omega))
          have e1 := (hx0.cell (p := ⟨b, m * 5 + 1, none⟩) hb).trans (show wB.cell? ⟨b, m * 5 + 1, none⟩ = some (.slice AP q.parts.length cP) from hcell 1 (by omega))
          have e2 := (hx0.cell (p := ⟨b, m * 5 + 2, none⟩) hb).trans (show wB.cell? ⟨b, m * 5 + 2, none⟩ = some (.slice AF q.flows.length cF) from hcell 2 (by omega))
          have e3 := (hx0.cell (p := ⟨b, m * 5 + 3, none⟩) hb).trans (show wB.cell? ⟨b, m * 5 + 3, none⟩ = some (.slice AI q.items.length cI) from hcell 3 (by omega))
          have e4 := (hx0.cell (p := ⟨b, m * 5 + 4, none⟩) hb).trans (show wB.cell? ⟨b, m * 5 + 4, none⟩ = some (.slice AS q.seqs.length cS) from hcell 4 (by omega))
          have hcall := fun o => ichor_any q hcomp hf1 (hT.below ((Below.refl V3.heap.size V3).alloc (Nat.le_refl _) o))
          have HCALL := Lib.hid hcall
          have HN := Lib.hid (And.intro hinv1 hf2)
          have hjI : (m : Int) < (d.chors.length : Int) := by omega
          clear hT hat hvs hcell hq hd hinv hinv1 hinv2 hf1 hf2 hcall hx0 hV hcomp
          go_wp2_with fail
          refine (HCALL.out _).mono ?_
          rintro e w3 ⟨rfl, hT3, _⟩
          obtain ⟨a, ha⟩ : ∃ a, a = addsF l3 (idsC q) := ⟨_, rfl⟩
          obtain ⟨hn1, hn2⟩ := HN.out
          rw [← ha] at hT3 hn2 ⊢
          clear e0 e1 e2 e3 e4 HCALL HN
          by_cases hz : a.1 = 0
          · rw [addsF_zero (by rw [← ha]; exact hz), ← ha] at hn1
            clear ha
            obtain ⟨az, al⟩ := a
            dsimp only at hz hn1 hn2 hT3 ⊢
            subst hz
            have HN := Lib.hid (And.intro hn1 hn2)
            have HT3 := Lib.hid hT3
            clear hn1 hn2 hT3
            go_wp2_with fail
            go_roundw
            case rel => exact ⟨m + 1, al, by omega, by go_num, HN, HT3.out⟩
            case measure => simp [intOf]; omega
          · have hzb : (a.1 == 0) = false := by simp [hz]
            rw [addsF_bad (by rw [← ha]; exact hz), ← ha] at hn1
            have HN := Lib.hid hn1
            have HT3 := Lib.hid hT3
            clear hn1 hn2 hT3 ha hz
            go_wp2_with fail
            have hnz : a.1 ≠ 0 := by simpa using hzb
            have hre : a = r := HN.out
            subst hre
            exact bodyPost_ret (ret_new rfl rfl) rfl (.inl ⟨hnz, rfl, HT3.out.bel⟩)
        · obtain ⟨hinv1, _⟩ := hinv.out
          rw [List.drop_eq_nil_of_le (by omega)] at hinv1
          have hrr : r = (0, l3) := hinv1.symm
          have HT := Lib.hid hT
          clear hinv hinv1 hT
          subst hrr
          go_wp2_with fail
          exact bodyPost_ret (ret_new rfl rfl) rfl (.inr ⟨rfl, g, rfl, HT.out⟩)
theorem has_any {wB W : World} {g : Nat} {l : List ByteArray} (id : ByteArray) (h : TabW wB g l W) :
    Calls Try.prog 18 #[.pointer (some ⟨g, 0, none⟩), .string id] W fun e w' => e = .returned (.bool (l.any (eqS · id))) ∧ W = w' := by
  obtain ⟨v, hb, ho⟩ := h.row
  obtain ⟨A, c, rfl, _, _⟩ := own_slice ho
  have hc := contains_any id (rd_of_strs ho)
  have x0 : W.cell? ⟨g, 0, none⟩ = some (.slice A l.length c) := hb.cell 0
  have HC := Lib.hid hc
  obtain ⟨r, hr⟩ : ∃ r, r = l.any (eqS · id) := ⟨_, rfl⟩
  rw [← hr] at HC ⊢
  clear hc hb ho h hr
  go_enter Try.func18, Try.ntmps18
  go_wp2_with fail
  refine HC.out.mono ?_
  rintro e w' ⟨rfl, rfl⟩
  go_wp2_with fail
  go_ret
  exact ⟨rfl, rfl⟩
theorem has_none (id : ByteArray) (W : World) : Calls Try.prog 18 #[.pointer none, .string id] W fun e w' => e = .returned (.bool false) ∧ W = w' := by
  go_enter Try.func18, Try.ntmps18
  go_wp2_with fail
  go_ret
  exact ⟨rfl, rfl⟩
theorem len_any {wB W : World} {g : Nat} {l : List ByteArray} (h : TabW wB g l W) :
    Calls Try.prog 17 #[.pointer (some ⟨g, 0, none⟩)] W fun e w' => e = .returned (.int .i64 (l.length : Int)) ∧ W = w' := by
  obtain ⟨v, hb, ho⟩ := h.row
  obtain ⟨A, c, rfl, _, _⟩ := own_slice ho
  have x0 : W.cell? ⟨g, 0, none⟩ = some (.slice A l.length c) := hb.cell 0
  clear hb ho h
  go_enter Try.func17, Try.ntmps17
  go_wp2_with fail
  go_ret
  exact ⟨rfl, rfl⟩
theorem len_none (W : World) : Calls Try.prog 17 #[.pointer none] W fun e w' => e = .returned (.int .i64 0) ∧ W = w' := by
  go_enter Try.func17, Try.ntmps17
  go_wp2_with fail
  go_ret
  exact ⟨rfl, rfl⟩
end Go.Proofs.Ytljmghaplnkohaa
