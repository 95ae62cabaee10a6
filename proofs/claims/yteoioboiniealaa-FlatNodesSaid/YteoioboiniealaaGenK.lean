/- The contract of the generator's begin. -/
import Derived.Test.YteoioboiniealaaGenJ
namespace Go.Proofs.Yteoioboiniealaa
open Go.RowKit
attribute [local go_sem ↓] Go.wp_at_zero Go.wp_at_succ

theorem Try.infoPartG : (Try.prog.info? 38).map (fun i => (i.zero, i.size, i.bytes)) = some (some (.agg #[.string ⟨#[]⟩, .string ⟨#[]⟩]), 2, 32) := by kernel_rfl
def flatP (pre : ByteArray) (i : Nat) : List Value := (List.range i).flatMap (fun j => [.string (pre ++ gpn j), .string ⟨#[]⟩])
theorem flatP_succ (pre : ByteArray) (i : Nat) : flatP pre (i + 1) = flatP pre i ++ [.string (pre ++ gpn i), .string ⟨#[]⟩] := by
  unfold flatP
  rw [List.range_succ, List.flatMap_append]
  rfl
theorem flatP_rd (w : World) (pre : ByteArray) : ∀ i : Nat, RdL w (((List.range i).map (fun j => (⟨pre ++ gpn j, ⟨#[]⟩⟩ : PartD))).flatMap partC) (flatP pre i)
  | 0 => rdl_nil.2 rfl
  | i + 1 => by
    rw [flatP_succ, List.range_succ, List.map_append, List.flatMap_append]
    exact (flatP_rd w pre i).append (rdl_cons.2 ⟨_, _, rfl, rd_str.2 rfl, rdl_cons.2 ⟨_, _, rfl, rd_str.2 rfl, rdl_nil.2 rfl⟩⟩)
theorem gpn_at : ∀ i : Nat, i < 4 → (#[.string ⟨#[112, 97]⟩, .string ⟨#[112, 98]⟩, .string ⟨#[112, 99]⟩, .string ⟨#[112, 100]⟩] : Array Value)[i]? = some (.string (gpn i))
  | 0, _ => rfl
  | 1, _ => rfl
  | 2, _ => rfl
  | 3, _ => rfl
/-- So many participants are there. -/
structure BW (w : World) (A : Option Addr) (cap : Nat) (p : List Int) (pre : ByteArray) (i : Nat) (AP : Option Addr) (cP : Nat) (V : World) : Prop where
  main : Blk V (w.heap.size + 1) 89 #[.slice A p.length cap, .int .i64 0, .int .i64 0, .slice AP i cP, .slice none 0 0, .slice none 0 0, .slice none 0 0, .string pre]
  res : Blk V w.heap.size 89 #[.slice none 0 0, .int .i64 0, .int .i64 0, .slice none 0 0, .slice none 0 0, .slice none 0 0, .slice none 0 0, .string ⟨#[]⟩]
  row : V.ownsRow (w.heap.size + 2) 38 2 (.slice AP i cP) i (flatP pre i)
  bel : Below w.heap.size w V
theorem ret_begin {W : World} {g : Nat} {v0 v1 v2 v3 v4 v5 v6 v7 : Value} {tmps : Array Value} (h : Blk W g 89 #[v0, v1, v2, v3, v4, v5, v6, v7]) (ht : tmps.getD 6 undef = .pointer (some ⟨g, 0, none⟩)) :
    (results Try.f38 tmps).run Try.prog W = .ok (.agg #[v0, v1, v2, v3, v4, v5, v6, v7]) W := by
  have x0 : W.cell? ⟨g, 0, none⟩ = some v0 := h.cell 0
  have x1 : W.cell? ⟨g, 1, none⟩ = some v1 := h.cell 1
  have x2 : W.cell? ⟨g, 2, none⟩ = some v2 := h.cell 2
  have x3 : W.cell? ⟨g, 3, none⟩ = some v3 := h.cell 3
  have x4 : W.cell? ⟨g, 4, none⟩ = some v4 := h.cell 4
  have x5 : W.cell? ⟨g, 5, none⟩ = some v5 := h.cell 5
  have x6 : W.cell? ⟨g, 6, none⟩ = some v6 := h.cell 6
  have x7 : W.cell? ⟨g, 7, none⟩ = some v7 := h.cell 7
  simp [results, Try.results38, go_sem, ht, x0, x1, x2, x3, x4, x5, x6, x7, -Array.getD_eq_getD_getElem?]

set_option maxRecDepth 100000 in
set_option maxHeartbeats 4000000 in
theorem begin_any {w : World} {A : Option Addr} {cap : Nat} {p : List Int} (pre : ByteArray) (hpre : pre.size ≤ 10) (n : Nat) (hn : n ≤ 4) :
    Calls Try.prog 38 #[.slice A p.length cap, .int .i64 n, .string pre] w (MkEnd1 w A cap (gbeginF p n pre)) := by
  obtain ⟨i0, hi0, hz0, hz1, hz2⟩ := info_parts Try.infoPartG
  obtain ⟨W, hW⟩ : ∃ W, W = (w.alloc (.cells #[.slice none 0 0, .int .i64 0, .int .i64 0, .slice none 0 0, .slice none 0 0, .slice none 0 0, .slice none 0 0, .string ⟨#[]⟩] 89)).alloc (.cells #[.slice A p.length cap, .int .i64 0, .int .i64 0, .slice none 0 0, .slice none 0 0, .slice none 0 0, .slice none 0 0, .string pre] 89) := ⟨_, rfl⟩
  have hP : BW w A cap p pre 0 none 0 W := by
    refine ⟨?_, by rw [hW]; exact (Blk.new w _ _).alloc _, World.ownsRow_nil _ _ _ _, by rw [hW]; exact ((Below.refl _ _).alloc (Nat.le_refl _) _).alloc (by simp) _⟩
    rw [hW]
    have := Blk.new (w.alloc (.cells #[.slice none 0 0, .int .i64 0, .int .i64 0, .slice none 0 0, .slice none 0 0, .slice none 0 0, .slice none 0 0, .string ⟨#[]⟩] 89)) 89 #[.slice A p.length cap, .int .i64 0, .int .i64 0, .slice none 0 0, .slice none 0 0, .slice none 0 0, .slice none 0 0, .string pre]
    simpa using this
  have HP := Lib.hid hP
  have HW := Lib.hid hW.symm
  clear hP hW
  go_enter Try.func38, Try.ntmps38
  go_upto_region 2 with fail
  rw [HW.out]
  go_wp2_with fail
  go_loopw [8] (fun v wr => ∃ i : Nat, i ≤ n ∧ v = .int .i64 i ∧ ∃ AP cP, BW w A cap p pre i AP cP wr) (fun v _ => n - (intOf v).toNat)
  case atStart => exact ⟨0, Nat.zero_le _, rfl, none, 0, HP.out⟩
  case round =>
    obtain ⟨i, hi, rfl, AP, cP, hB⟩ := hrel
    obtain ⟨V, rfl⟩ : ∃ V, V = wr := ⟨_, rfl⟩
    have HB := Lib.hid hB
    have hgl := hB.main.lt
    have hszV := hB.bel.size
    have hrowlt := hB.row.lt
    have HRL := Lib.hid hrowlt
    clear hB hrowlt
    by_cases hlt : i < n
    · have hltI : (i : Int) < (n : Int) := by omega
      have hi4 : (i : Int) < 4 := by omega
      have hi0' : (0 : Int) ≤ (i : Int) := by omega
      have hgz : (gpn i).size = 2 := rfl
      have hcat : ¬ 9223372036854775807 < pre.size + 2 := by omega
      have HY3 := Lib.hid (show V.cell? ⟨w.heap.size + 1, 3, none⟩ = some (.slice AP i cP) from HB.out.main.cell 3)
      have HPN := Lib.hid (gpn_at i (by omega))
      have d0 := (Below.refl V.heap.size V).drew
      go_upto_region 5 with fail
      refine wp_region_HT 12 (fun U => U.cell? ⟨w.heap.size + 1, 3, none⟩ = some (.slice AP i cP)) (by kernel_rfl) (by decide) (HY3.out) (fun hHeld => ?_)
      refine ht_take 0 (v := ?vb_1) rfl (by kernel_rfl) (fun _ _ _ h => h) (Or.inl ⟨by rfl, ?hb_1⟩) hHeld ?rb_1
      case hb_1 => ((intro U hSw; have y3 : U.cell? ⟨w.heap.size + 1, 3, none⟩ = some (.slice AP i cP) := hSw; go_simp; (try simp only [if_neg hcat])); (try (with_reducible rfl)))
      try simp only [Act.put, List.setIfInBounds_toArray, List.set_cons_zero, List.set_cons_succ]
      refine ht_take 1 (v := ?vb_2) rfl (by kernel_rfl) (fun _ _ _ h => h) (Or.inl ⟨by rfl, ?hb_2⟩) hHeld ?rb_2
      case hb_2 => ((intro U hSw; have y3 : U.cell? ⟨w.heap.size + 1, 3, none⟩ = some (.slice AP i cP) := hSw; go_simp; (try simp only [if_neg hcat])); (try (with_reducible rfl)))
      try simp only [Act.put, List.setIfInBounds_toArray, List.set_cons_zero, List.set_cons_succ]
      refine ht_take 2 (v := ?vb_3) rfl (by kernel_rfl) (fun _ _ _ h => h) (Or.inl ⟨by rfl, ?hb_3⟩) hHeld ?rb_3
      case hb_3 => ((intro U hSw; have y3 : U.cell? ⟨w.heap.size + 1, 3, none⟩ = some (.slice AP i cP) := hSw; go_simp; (try simp only [if_neg hcat])); (try (with_reducible rfl)))
      try simp only [Act.put, List.setIfInBounds_toArray, List.set_cons_zero, List.set_cons_succ]
      refine ht_take 4 (v := ?vb_4) rfl (by kernel_rfl) (fun _ _ _ h => h) (Or.inl ⟨by rfl, ?hb_4⟩) hHeld ?rb_4
      case hb_4 => ((intro U hSw; have y3 : U.cell? ⟨w.heap.size + 1, 3, none⟩ = some (.slice AP i cP) := hSw; go_simp; (try simp only [if_neg hcat])); (try (with_reducible rfl)))
      try simp only [Act.put, List.setIfInBounds_toArray, List.set_cons_zero, List.set_cons_succ]
      refine ht_one 3 rfl (by kernel_rfl) (fun K hK => ?_)
      go_simp
      obtain ⟨gM, hgM⟩ : ∃ g, g = V.heap.size := ⟨_, rfl⟩
      obtain ⟨T1, hT⟩ : ∃ T, T = V.drew.alloc (.cells #[.string ⟨#[112, 97]⟩, .string ⟨#[112, 98]⟩, .string ⟨#[112, 99]⟩, .string ⟨#[112, 100]⟩] 9) := ⟨_, rfl⟩
      have d1 : Below V.heap.size V T1 := by rw [hT]; exact d0.alloc d0.size (.cells #[.string ⟨#[112, 97]⟩, .string ⟨#[112, 98]⟩, .string ⟨#[112, 99]⟩, .string ⟨#[112, 100]⟩] 9)
      have kM1 : Blk T1 gM 9 #[.string ⟨#[112, 97]⟩, .string ⟨#[112, 98]⟩, .string ⟨#[112, 99]⟩, .string ⟨#[112, 100]⟩] := by rw [hT, hgM]; exact Blk.new _ _ _
      have w1 : T1.ownsRow (w.heap.size + 2) 38 2 (.slice AP i cP) i (flatP pre i) := own_below HB.out.row d1
      show K _ ((V.drew).alloc (.cells #[.string ⟨#[112, 97]⟩, .string ⟨#[112, 98]⟩, .string ⟨#[112, 99]⟩, .string ⟨#[112, 100]⟩] 9))
      rw [← hT, ← hgM]
      clear hT hgM
      refine hK.out _ _ ((HB.out.main.below d1 hgl).cell 3) (fun hHeld => ?_)
      clear hK K
      try simp only [Act.put, List.setIfInBounds_toArray, List.set_cons_zero, List.set_cons_succ]
      refine ht_take 5 (v := ?vb_5) rfl (by kernel_rfl) (fun _ _ _ h => h) (Or.inl ⟨by rfl, ?hb_5⟩) hHeld ?rb_5
      case hb_5 => ((intro U hSw; have y3 : U.cell? ⟨w.heap.size + 1, 3, none⟩ = some (.slice AP i cP) := hSw; go_simp; (try simp only [if_neg hcat])); (try (with_reducible rfl)))
      try simp only [Act.put, List.setIfInBounds_toArray, List.set_cons_zero, List.set_cons_succ]
      refine ht_one 6 rfl (by kernel_rfl) (fun K hK => ?_)
      have y9 : T1.cell? ⟨gM, i, none⟩ = some (.string (gpn i)) := (kM1.cell i).trans HPN.out
      go_simp
      refine hK.out _ _ ((HB.out.main.below d1 hgl).cell 3) (fun hHeld => ?_)
      clear hK K
      try simp only [Act.put, List.setIfInBounds_toArray, List.set_cons_zero, List.set_cons_succ]
      refine ht_take 7 (v := ?vb_6) rfl (by kernel_rfl) (fun _ _ _ h => h) (Or.inl ⟨by rfl, ?hb_6⟩) hHeld ?rb_6
      case hb_6 => ((intro U hSw; have y3 : U.cell? ⟨w.heap.size + 1, 3, none⟩ = some (.slice AP i cP) := hSw; go_simp; (try simp only [if_neg hcat])); (try (with_reducible rfl)))
      try simp only [Act.put, List.setIfInBounds_toArray, List.set_cons_zero, List.set_cons_succ]
      refine ht_take 8 (v := ?vb_7) rfl (by kernel_rfl) (fun _ _ _ h => h) (Or.inl ⟨by rfl, ?hb_7⟩) hHeld ?rb_7
      case hb_7 => ((intro U hSw; have y3 : U.cell? ⟨w.heap.size + 1, 3, none⟩ = some (.slice AP i cP) := hSw; go_simp; (try simp only [if_neg hcat])); (try (with_reducible rfl)))
      try simp only [Act.put, List.setIfInBounds_toArray, List.set_cons_zero, List.set_cons_succ]
      refine ht_one 9 rfl (by kernel_rfl) (fun K hK => ?_)
      go_simp
      obtain ⟨gG, hgG⟩ : ∃ g, g = T1.heap.size := ⟨_, rfl⟩
      obtain ⟨T2, hT⟩ : ∃ T, T = T1.alloc (.cells #[.string (pre ++ gpn i), .string ⟨#[]⟩] 38) := ⟨_, rfl⟩
      have d2 : Below V.heap.size V T2 := by rw [hT]; exact d1.alloc d1.size (.cells #[.string (pre ++ gpn i), .string ⟨#[]⟩] 38)
      have kG2 : Blk T2 gG 38 #[.string (pre ++ gpn i), .string ⟨#[]⟩] := by rw [hT, hgG]; exact Blk.new _ _ _
      have w2 : T2.ownsRow (w.heap.size + 2) 38 2 (.slice AP i cP) i (flatP pre i) := by rw [hT]; exact w1.alloc _
      show K _ (T1.alloc (.cells #[.string (pre ++ gpn i), .string ⟨#[]⟩] 38))
      rw [← hT, ← hgG]
      clear hT hgG
      refine hK.out _ _ ((HB.out.main.below d2 hgl).cell 3) (fun hHeld => ?_)
      clear hK K
      try simp only [Act.put, List.setIfInBounds_toArray, List.set_cons_zero, List.set_cons_succ]
      refine ht_one 10 rfl (by kernel_rfl) (fun K hK => ?_)
      refine step_append_lies _ (by rfl) (.tmp 18) (.tmp 26) _ (by rfl) (w.heap.size + 2) 38 i0 _ 2 32 Try.underlying23 hi0 hz0 hz1 hz2 rfl (by omega) (.slice AP i cP) i (flatP pre i) (by rfl) w2 ⟨gG, 0, none⟩ 1 1 [.string (pre ++ gpn i), .string ⟨#[]⟩] (by rfl) (by rfl) (World.news_of_block (cs := #[.string (pre ++ gpn i), .string ⟨#[]⟩]) (t := 38) (fr := (0, 0)) kG2) (by simp [Value.oneCell']) (by omega) (by unfold maxLen; omega) (by omega) (by have := d2.size; omega) _ rfl ?_
      intro g6 cap6 T3 hown6 hgrow6 _ _
      have hb3 : Below w.heap.size w T3 := (HB.out.bel.trans (d2.mono hszV)).grown hgrow6 (by have := d2.size; omega) (fun j hj => by have := (w2.lt j hj).1; omega)
      have hm3 : Blk T3 (w.heap.size + 1) 89 #[.slice A p.length cap, .int .i64 0, .int .i64 0, .slice AP i cP, .slice none 0 0, .slice none 0 0, .slice none 0 0, .string pre] := (HB.out.main.below d2 hgl).grown hgrow6 (by intro e; have := (w2.lt _ e.symm).1; omega)
      have hr3 : Blk T3 w.heap.size 89 #[.slice none 0 0, .int .i64 0, .int .i64 0, .slice none 0 0, .slice none 0 0, .slice none 0 0, .slice none 0 0, .string ⟨#[]⟩] := (HB.out.res.below d2 HB.out.res.lt).grown hgrow6 (by intro e; have := (w2.lt _ e.symm).1; omega)
      clear hgrow6
      refine hK.out _ _ (hm3.cell 3) (fun hHeld => ?_)
      clear hK K
      try simp only [Act.put, List.setIfInBounds_toArray, List.set_cons_zero, List.set_cons_succ]
      refine ht_take 11 (v := ?vb_8) rfl (by kernel_rfl) (fun _ _ _ h => h) (Or.inl ⟨by rfl, ?hb_8⟩) hHeld ?rb_8
      case hb_8 => ((intro U hSw; have y3 : U.cell? ⟨w.heap.size + 1, 3, none⟩ = some (.slice AP i cP) := hSw; go_simp; (try simp only [if_neg hcat])); (try (with_reducible rfl)))
      try simp only [Act.put, List.setIfInBounds_toArray, List.set_cons_zero, List.set_cons_succ]
      refine ht_done (by kernel_rfl) rfl ?_
      have z3 : T3.cell? ⟨w.heap.size + 1, 3, none⟩ = some (.slice AP i cP) := hm3.cell 3
      have zf := hm3.frozen 3
      have hl3 := hm3.lt
      have HN := Lib.hid (show BW w A cap p pre (i + 1) (some ⟨g6, 0, none⟩) cap6 (T3.setCell ⟨w.heap.size + 1, 3, none⟩ (.slice (some ⟨g6, 0, none⟩) (i + 1) cap6)) from
        ⟨hm3.set_ 3 _, hr3.far (by simp) _, by rw [flatP_succ]; exact ownsRow_setCell_other (a := ⟨w.heap.size + 1, 3, none⟩) hown6 (by have := (hown6.lt g6 rfl).1; simp [Value.ownBlock]; omega) _, hb3.setCell (p := ⟨w.heap.size + 1, 3, none⟩) (by simp) _⟩)
      clear hm3 hr3 hb3 hown6
      go_wp2_with fail
      go_roundw
      case rel => exact ⟨i + 1, by omega, by go_num, _, _, HN.out⟩
      case measure => simp [intOf]; omega
    · have hltI : ¬ (i : Int) < (n : Int) := by omega
      have hin : i = n := by omega
      subst hin
      have hB := HB.out.main
      have hR := HB.out.res
      have y0 : V.cell? ⟨w.heap.size + 1, 0, none⟩ = some (.slice A p.length cap) := hB.cell 0
      have y1 : V.cell? ⟨w.heap.size + 1, 1, none⟩ = some (.int .i64 0) := hB.cell 1
      have y2 : V.cell? ⟨w.heap.size + 1, 2, none⟩ = some (.int .i64 0) := hB.cell 2
      have y3 : V.cell? ⟨w.heap.size + 1, 3, none⟩ = some (.slice AP i cP) := hB.cell 3
      have y4 : V.cell? ⟨w.heap.size + 1, 4, none⟩ = some (.slice none 0 0) := hB.cell 4
      have y5 : V.cell? ⟨w.heap.size + 1, 5, none⟩ = some (.slice none 0 0) := hB.cell 5
      have y6 : V.cell? ⟨w.heap.size + 1, 6, none⟩ = some (.slice none 0 0) := hB.cell 6
      have y7 : V.cell? ⟨w.heap.size + 1, 7, none⟩ = some (.string pre) := hB.cell 7
      have z0 : V.cell? ⟨w.heap.size, 0, none⟩ = some (.slice none 0 0) := hR.cell 0
      have z1 : V.cell? ⟨w.heap.size, 1, none⟩ = some (.int .i64 0) := hR.cell 1
      have z2 : V.cell? ⟨w.heap.size, 2, none⟩ = some (.int .i64 0) := hR.cell 2
      have z3 : V.cell? ⟨w.heap.size, 3, none⟩ = some (.slice none 0 0) := hR.cell 3
      have z4 : V.cell? ⟨w.heap.size, 4, none⟩ = some (.slice none 0 0) := hR.cell 4
      have z5 : V.cell? ⟨w.heap.size, 5, none⟩ = some (.slice none 0 0) := hR.cell 5
      have z6 : V.cell? ⟨w.heap.size, 6, none⟩ = some (.slice none 0 0) := hR.cell 6
      have z7 : V.cell? ⟨w.heap.size, 7, none⟩ = some (.string ⟨#[]⟩) := hR.cell 7
      have q0 := hR.frozen 0
      have q1 := hR.frozen 1
      have q2 := hR.frozen 2
      have q3 := hR.frozen 3
      have q4 := hR.frozen 4
      have q5 := hR.frozen 5
      have q6 := hR.frozen 6
      have q7 := hR.frozen 7
      have hblk := putAll_blk [.slice A p.length cap, .int .i64 0, .int .i64 0, .slice AP i cP, .slice none 0 0, .slice none 0 0, .slice none 0 0, .string pre] 0 V _ hR rfl
      have HBK := Lib.hid hblk
      have hend : MkEnd1 w A cap (gbeginF p i pre) (.returned (.agg #[.slice A p.length cap, .int .i64 0, .int .i64 0, .slice AP i cP, .slice none 0 0, .slice none 0 0, .slice none 0 0, .string pre])) (putAll V w.heap.size 0 [.slice A p.length cap, .int .i64 0, .int .i64 0, .slice AP i cP, .slice none 0 0, .slice none 0 0, .slice none 0 0, .string pre]) := by
        refine ⟨_, rfl, ⟨AP, cP, none, 0, none, 0, none, 0, ?_, ?_⟩, putAll_below (Nat.le_refl _) _ 0 _ HB.out.bel⟩
        · unfold gbeginF
          simp
        · have hC : Comp V (gbeginF p i pre).parts [] [] [] AP cP none 0 none 0 none 0 := by
            refine ⟨?_, rd_nilG, rd_nilG, rd_nilG⟩
            have hl : (gbeginF p i pre).parts.length = i := by simp [gbeginF]
            refine rd_sl.2 ⟨AP, cP, flatP pre i, rfl, ?_, flatP_rd _ _ _⟩
            rw [hl]
            exact own_mono HB.out.row (by omega)
          exact hC.grown (putAll_grown _ V) hR
      have HEND := Lib.hid hend
      clear hB hR hblk hend
      go_wp2_with fail
      exact bodyPost_ret (ret_begin HBK.out rfl) rfl HEND.out
end Go.Proofs.Yteoioboiniealaa
