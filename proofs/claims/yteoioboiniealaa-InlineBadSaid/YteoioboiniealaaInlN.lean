/- The walk of the law InlineBad. -/
import Derived.Test.YteoioboiniealaaInlM
namespace Go.Proofs.Yteoioboiniealaa
open Go.RowKit
attribute [local go_sem ↓] Go.wp_at_zero Go.wp_at_succ

theorem own_blk {w : World} {g e sz n base : Nat} {cs : Array Value} (hb : Blk w g e cs) (hm : n ≤ maxLen) (hs : cs.size = n * sz) (hg : base ≤ g) : w.ownsRow base e sz (.slice (some ⟨g, 0, none⟩) n n) n cs.toList :=
  ⟨by simpa using hs, .inr ⟨g, n, cs, rfl, hg, hb, Nat.le_refl _, hm, hs, List.take_of_length_le (by rw [Array.length_toList, hs]; exact Nat.le_refl _)⟩⟩
theorem itemK_info : (Try.prog.info? 33).map (fun i => (i.zero, i.size, i.bytes)) = some (some (.agg #[.int .i64 0, .string ⟨#[]⟩, .string ⟨#[]⟩, .slice none 0 0, .slice none 0 0, .bool false, .string ⟨#[]⟩, .slice none 0 0, .slice none 0 0, .slice none 0 0]), 10, 184) := by kernel_rfl

def bigV (i : Nat) : List Value := endsV ++ (List.replicate i gV).flatten
theorem bigV_succ (i : Nat) : bigV (i + 1) = bigV i ++ gV := by
  unfold bigV
  rw [List.replicate_succ', List.flatten_append]
  simp
theorem bigV_len (i : Nat) : (bigV i).length = (2 + i) * 10 := by
  induction i with
  | zero => rfl
  | succ i ih => rw [bigV_succ, List.length_append, ih]; show (2 + i) * 10 + 10 = _; omega
theorem rdl_big {w : World} (i : Nat) : RdL w ((endsL ++ List.replicate i gI).flatMap itemC) (bigV i) := by
  induction i with
  | zero => exact rdl_ends
  | succ i ih =>
    rw [bigV_succ, List.replicate_succ', ← List.append_assoc, List.flatMap_append, List.flatMap_cons, List.flatMap_nil, List.append_nil]
    exact ih.append (rdl_itemK _ _ _)
/-- What holds at each round's head. -/
def InBig (w : World) (j : Int) (iv : Value) (wr : World) : Prop := ∃ i : Nat, (i : Int) ≤ 395 + j ∧ iv = .int .i64 i ∧ ∃ v, BadS w v (2 + i) (bigV i) wr

set_option maxRecDepth 100000 in
set_option maxHeartbeats 4000000 in
theorem inlineBad_walk (a0 a1 : Int) (w : World) (_w0 : (Lit.int .i64 a0).wf = true) (_w1 : (Lit.int .i64 a1).wf = true) :
    Calls Try.prog 7 #[.int .i64 a0, .int .i64 a1] w fun e w' => e = .returned (.bool true) ∧ Below w.heap.size w w' := by
  clear _w0 _w1
  obtain ⟨hk0, hk1⟩ := am3 a0
  obtain ⟨hj0, hj1⟩ := am7 a1
  obtain ⟨k, hk⟩ : ∃ k, bits BinOp.and IntKind.i64 a0 3 = k := ⟨_, rfl⟩
  obtain ⟨j, hj⟩ : ∃ j, bits BinOp.and IntKind.i64 a1 7 = j := ⟨_, rfl⟩
  rw [hk] at hk0 hk1
  rw [hj] at hj0 hj1
  obtain ⟨W, hW⟩ : ∃ W, W = (((w.alloc (.cells #[.int .i64 1, .string ⟨#[115]⟩, .string ⟨#[]⟩, .slice none 0 0, .slice none 0 0, .bool false, .string ⟨#[]⟩, .slice none 0 0, .slice none 0 0, .slice none 0 0, .int .i64 2, .string ⟨#[101]⟩, .string ⟨#[]⟩, .slice none 0 0, .slice none 0 0, .bool false, .string ⟨#[]⟩, .slice none 0 0, .slice none 0 0, .slice none 0 0] 33)).alloc (.cells #[.int .i64 8, .string ⟨#[120]⟩, .string ⟨#[]⟩, .slice none 0 0, .slice none 0 0, .bool false, .string ⟨#[98]⟩, .slice none 0 0, .slice none 0 0, .slice none 0 0] 33)).alloc (.cells #[.string ⟨#[97]⟩, .slice none 0 0, .slice none 0 0, .slice (some ⟨w.heap.size + 1, 0, none⟩) 1 1, .slice none 0 0, .string ⟨#[98]⟩, .slice none 0 0, .slice none 0 0, .slice (some ⟨w.heap.size, 0, none⟩) 2 2, .slice none 0 0] 28)).alloc (.cells #[.slice none 0 0, .slice (some ⟨w.heap.size + 1 + 1, 0, none⟩) 2 2] 61) := ⟨_, rfl⟩
  have hbW : Below w.heap.size w W := by rw [hW]; exact ((((Below.refl _ _).alloc (Nat.le_refl _) _).alloc (by simp) _).alloc (by simp; omega) _).alloc (by simp; omega) _
  have hD : Blk W (w.heap.size + 1 + 1 + 1) 61 #[.slice none 0 0, .slice (some ⟨w.heap.size + 1 + 1, 0, none⟩) 2 2] := by
    rw [hW]
    have := Blk.new (((w.alloc (.cells #[.int .i64 1, .string ⟨#[115]⟩, .string ⟨#[]⟩, .slice none 0 0, .slice none 0 0, .bool false, .string ⟨#[]⟩, .slice none 0 0, .slice none 0 0, .slice none 0 0, .int .i64 2, .string ⟨#[101]⟩, .string ⟨#[]⟩, .slice none 0 0, .slice none 0 0, .bool false, .string ⟨#[]⟩, .slice none 0 0, .slice none 0 0, .slice none 0 0] 33)).alloc (.cells #[.int .i64 8, .string ⟨#[120]⟩, .string ⟨#[]⟩, .slice none 0 0, .slice none 0 0, .bool false, .string ⟨#[98]⟩, .slice none 0 0, .slice none 0 0, .slice none 0 0] 33)).alloc (.cells #[.string ⟨#[97]⟩, .slice none 0 0, .slice none 0 0, .slice (some ⟨w.heap.size + 1, 0, none⟩) 1 1, .slice none 0 0, .string ⟨#[98]⟩, .slice none 0 0, .slice none 0 0, .slice (some ⟨w.heap.size, 0, none⟩) 2 2, .slice none 0 0] 28)) 61 #[.slice none 0 0, .slice (some ⟨w.heap.size + 1 + 1, 0, none⟩) 2 2]
    simpa using this
  have h0W : Blk W w.heap.size 33 #[.int .i64 1, .string ⟨#[115]⟩, .string ⟨#[]⟩, .slice none 0 0, .slice none 0 0, .bool false, .string ⟨#[]⟩, .slice none 0 0, .slice none 0 0, .slice none 0 0, .int .i64 2, .string ⟨#[101]⟩, .string ⟨#[]⟩, .slice none 0 0, .slice none 0 0, .bool false, .string ⟨#[]⟩, .slice none 0 0, .slice none 0 0, .slice none 0 0] := by rw [hW]; exact (((Blk.new w _ _).alloc _).alloc _).alloc _
  have hX : BadS w (.slice (some ⟨w.heap.size, 0, none⟩) 2 2) 2 endsV W := by
    refine ⟨hbW, ?_, ?_, hD, own_blk h0W (by decide) rfl (Nat.le_refl _), by simp [Value.ownBlock]⟩
    · rw [hW]
      have := ((Blk.new (w.alloc (.cells #[.int .i64 1, .string ⟨#[115]⟩, .string ⟨#[]⟩, .slice none 0 0, .slice none 0 0, .bool false, .string ⟨#[]⟩, .slice none 0 0, .slice none 0 0, .slice none 0 0, .int .i64 2, .string ⟨#[101]⟩, .string ⟨#[]⟩, .slice none 0 0, .slice none 0 0, .bool false, .string ⟨#[]⟩, .slice none 0 0, .slice none 0 0, .slice none 0 0] 33)) 33 #[.int .i64 8, .string ⟨#[120]⟩, .string ⟨#[]⟩, .slice none 0 0, .slice none 0 0, .bool false, .string ⟨#[98]⟩, .slice none 0 0, .slice none 0 0, .slice none 0 0]).alloc (.cells #[.string ⟨#[97]⟩, .slice none 0 0, .slice none 0 0, .slice (some ⟨w.heap.size + 1, 0, none⟩) 1 1, .slice none 0 0, .string ⟨#[98]⟩, .slice none 0 0, .slice none 0 0, .slice (some ⟨w.heap.size, 0, none⟩) 2 2, .slice none 0 0] 28)).alloc (.cells #[.slice none 0 0, .slice (some ⟨w.heap.size + 1 + 1, 0, none⟩) 2 2] 61)
      simpa using this
    · rw [hW]
      have := (Blk.new ((w.alloc (.cells #[.int .i64 1, .string ⟨#[115]⟩, .string ⟨#[]⟩, .slice none 0 0, .slice none 0 0, .bool false, .string ⟨#[]⟩, .slice none 0 0, .slice none 0 0, .slice none 0 0, .int .i64 2, .string ⟨#[101]⟩, .string ⟨#[]⟩, .slice none 0 0, .slice none 0 0, .bool false, .string ⟨#[]⟩, .slice none 0 0, .slice none 0 0, .slice none 0 0] 33)).alloc (.cells #[.int .i64 8, .string ⟨#[120]⟩, .string ⟨#[]⟩, .slice none 0 0, .slice none 0 0, .bool false, .string ⟨#[98]⟩, .slice none 0 0, .slice none 0 0, .slice none 0 0] 33)) 28 #[.string ⟨#[97]⟩, .slice none 0 0, .slice none 0 0, .slice (some ⟨w.heap.size + 1, 0, none⟩) 1 1, .slice none 0 0, .string ⟨#[98]⟩, .slice none 0 0, .slice none 0 0, .slice (some ⟨w.heap.size, 0, none⟩) 2 2, .slice none 0 0]).alloc (.cells #[.slice none 0 0, .slice (some ⟨w.heap.size + 1 + 1, 0, none⟩) 2 2] 61)
      simpa using this
  have HX := Lib.hid hX
  have HD := Lib.hid hD
  have HW := Lib.hid hW.symm
  have hl := hD.lt
  have d0 : W.cell? ⟨w.heap.size + 1 + 1 + 1, 0, none⟩ = some (.slice none 0 0) := hD.cell 0
  have d1 : W.cell? ⟨w.heap.size + 1 + 1 + 1, 1, none⟩ = some (.slice (some ⟨w.heap.size + 1 + 1, 0, none⟩) 2 2) := hD.cell 1
  have df1 : W.frozen? ⟨w.heap.size + 1 + 1 + 1, 1, none⟩ = false := hD.frozen 1
  have h4 : k = 0 ∨ k = 1 ∨ k = 2 ∨ k = 3 := by omega
  have HK := Lib.hid hk
  have HJ := Lib.hid hj
  obtain ⟨i0, hi0, hz0, hz1, hz2⟩ := info_parts itemK_info
  clear hW hbW hD hX hk0 hk1 hk hj h0W
  go_enter Try.func7, Try.ntmps7
  go_upto_region 5 with fail
  rw [HW.out]
  rcases h4 with rfl | rfl | rfl | rfl
  · have hk := HK.out
    obtain ⟨c, hF⟩ := errB_spec bad0 (by decide)
    obtain rfl := chorF_err hF (by decide)
    go_wp2_with fail
    have hV1 := HX.out.b1.far (p := ⟨w.heap.size + 1 + 1 + 1, 1, none⟩) (by show w.heap.size + 1 ≠ w.heap.size + 1 + 1 + 1; omega) (.slice (some ⟨w.heap.size + 1 + 1, 0, none⟩) 1 2)
    have hV2 := HX.out.b2.far (p := ⟨w.heap.size + 1 + 1 + 1, 1, none⟩) (by show w.heap.size + 1 + 1 ≠ w.heap.size + 1 + 1 + 1; omega) (.slice (some ⟨w.heap.size + 1 + 1, 0, none⟩) 1 2)
    have hV3 := HX.out.bel.setCell (p := ⟨w.heap.size + 1 + 1 + 1, 1, none⟩) (by show w.heap.size ≤ w.heap.size + 1 + 1 + 1; omega) (.slice (some ⟨w.heap.size + 1 + 1, 0, none⟩) 1 2)
    refine (chor_small (d := ⟨[], [chA]⟩) 4 rd_nil (rd_first hV1 hV2) hF (by decide +kernel) (by decide +kernel) (by decide)).mono ?_
    rintro e w4 ⟨vP, vF, vI, vS, rfl, ⟨hP, hF2, hI, hS⟩, hb4⟩
    obtain ⟨AP, cP, _, rfl, _, _⟩ := rd_sl.1 hP
    obtain ⟨AF, cF, _, rfl, _, _⟩ := rd_sl.1 hF2
    obtain ⟨AI, cI, _, rfl, _, _⟩ := rd_sl.1 hI
    obtain ⟨AS, cS, _, rfl, _, _⟩ := rd_sl.1 hS
    have HB4 := Lib.hid hb4
    have hl4 := hb4.size
    clear hP hF2 hI hS hb4
    go_wp2_with fail
    refine (inl_awake _).mono ?_
    rintro e w5 ⟨rfl, hb5⟩
    have hbc := (Blk.new w4 28 #[.string ⟨#[]⟩, .slice AP 0 cP, .slice AF 0 cF, .slice AI 0 cI, .slice AS 0 cS]).below hb5 (by simp)
    have c0 : w5.cell? ⟨w4.heap.size, 0, none⟩ = some (.string ⟨#[]⟩) := hbc.cell 0
    have c3 : w5.cell? ⟨w4.heap.size, 3, none⟩ = some (.slice AI 0 cI) := hbc.cell 3
    have HB5 := Lib.hid hb5
    clear hbc hb5
    go_wp2_with fail
    go_ret
    exact ⟨rfl, (((hV3).trans (HB4.out.mono (hV3).size)).alloc (by have := (hV3).size; omega) _).trans (HB5.out.mono (by have := (hV3).size; simp; omega))⟩
  · have hk := HK.out
    obtain ⟨c, hF⟩ := errB_spec bad1 (by decide)
    obtain rfl := chorF_err hF (by decide)
    go_upto_region 9 with fail
    refine wp_region_HT 8 (fun V => Blk V (w.heap.size + 1 + 1 + 1) 61 #[.slice none 0 0, .slice (some ⟨w.heap.size + 1 + 1, 0, none⟩) 2 2]) (by kernel_rfl) (by decide) (HX.out.bD) (fun hHeld => ?_)
    refine ht_take 0 (v := ?vn_1) rfl (by kernel_rfl) (fun _ _ _ h => h) (Or.inl ⟨by rfl, ?hn_1⟩) hHeld ?rn_1
    case hn_1 => ((intro V hSw; have y0 : V.cell? ⟨w.heap.size + 1 + 1 + 1, 1, none⟩ = some (.slice (some ⟨w.heap.size + 1 + 1, 0, none⟩) 2 2) := hSw.cell 1; go_simp); (try (with_reducible rfl)))
    try simp only [Act.put, List.setIfInBounds_toArray, List.set_cons_zero, List.set_cons_succ]
    refine ht_take 1 (v := ?vn_2) rfl (by kernel_rfl) (fun _ _ _ h => h) (Or.inl ⟨by rfl, ?hn_2⟩) hHeld ?rn_2
    case hn_2 => ((intro V hSw; have y0 : V.cell? ⟨w.heap.size + 1 + 1 + 1, 1, none⟩ = some (.slice (some ⟨w.heap.size + 1 + 1, 0, none⟩) 2 2) := hSw.cell 1; go_simp); (try (with_reducible rfl)))
    try simp only [Act.put, List.setIfInBounds_toArray, List.set_cons_zero, List.set_cons_succ]
    refine ht_take 2 (v := ?vn_3) rfl (by kernel_rfl) (fun _ _ _ h => h) (Or.inl ⟨by rfl, ?hn_3⟩) hHeld ?rn_3
    case hn_3 => ((intro V hSw; have y0 : V.cell? ⟨w.heap.size + 1 + 1 + 1, 1, none⟩ = some (.slice (some ⟨w.heap.size + 1 + 1, 0, none⟩) 2 2) := hSw.cell 1; go_simp); (try (with_reducible rfl)))
    try simp only [Act.put, List.setIfInBounds_toArray, List.set_cons_zero, List.set_cons_succ]
    refine ht_take 3 (v := ?vn_4) rfl (by kernel_rfl) (fun _ _ _ h => h) (Or.inl ⟨by rfl, ?hn_4⟩) hHeld ?rn_4
    case hn_4 => ((intro V hSw; have y0 : V.cell? ⟨w.heap.size + 1 + 1 + 1, 1, none⟩ = some (.slice (some ⟨w.heap.size + 1 + 1, 0, none⟩) 2 2) := hSw.cell 1; go_simp); (try (with_reducible rfl)))
    try simp only [Act.put, List.setIfInBounds_toArray, List.set_cons_zero, List.set_cons_succ]
    refine ht_one 4 rfl (by kernel_rfl) (fun K hK => ?_)
    go_simp
    refine hK.out _ _ (hHeld.alloc _) (fun hHeld => ?_)
    clear hK K
    try simp only [Act.put, List.setIfInBounds_toArray, List.set_cons_zero, List.set_cons_succ]
    refine ht_one 5 rfl (by kernel_rfl) (fun K hK => ?_)
    refine step_append_lies _ (by rfl) (.tmp 36) (.tmp 38) _ (by rfl) w.heap.size 33 i0 _ 10 184 Try.underlying25 hi0 hz0 hz1 hz2 rfl (by omega) (.slice (some ⟨w.heap.size, 0, none⟩) 2 2) 2 endsV (by rfl) ((HX.out.below ((Below.refl _ _).drew)).own.alloc _) ⟨W.heap.size, 0, none⟩ 1 1 [.int .i64 2, .string ⟨#[102]⟩, .string ⟨#[]⟩, .slice none 0 0, .slice none 0 0, .bool false, .string ⟨#[]⟩, .slice none 0 0, .slice none 0 0, .slice none 0 0] (by rfl) (by rfl) (World.news_of_block (cs := #[.int .i64 2, .string ⟨#[102]⟩, .string ⟨#[]⟩, .slice none 0 0, .slice none 0 0, .bool false, .string ⟨#[]⟩, .slice none 0 0, .slice none 0 0, .slice none 0 0]) (t := 33) (fr := (0, 0)) (heap_alloc_new W.drew _)) (by simp [Value.oneCell']) (by omega) (by unfold maxLen; omega) (by omega) (by have := HX.out.bel.size; simp; omega) (W.heap.size + 1) (by simp) ?_
    intro gA capA w2 hown2 hgrow2 hat2 hlt2
    refine hK.out _ _ (hHeld.grown hgrow2 (Ne.symm (blk_own_ne ((HX.out.below ((Below.refl _ _).drew)).own.alloc _) hHeld (by decide)))) (fun hHeld => ?_)
    clear hK K
    try simp only [Act.put, List.setIfInBounds_toArray, List.set_cons_zero, List.set_cons_succ]
    refine ht_take 6 (v := ?vn_5) rfl (by kernel_rfl) (fun _ _ _ h => h) (Or.inl ⟨by rfl, ?hn_5⟩) hHeld ?rn_5
    case hn_5 => ((intro V hSw; have y0 : V.cell? ⟨w.heap.size + 1 + 1 + 1, 1, none⟩ = some (.slice (some ⟨w.heap.size + 1 + 1, 0, none⟩) 2 2) := hSw.cell 1; go_simp); (try (with_reducible rfl)))
    try simp only [Act.put, List.setIfInBounds_toArray, List.set_cons_zero, List.set_cons_succ]
    refine ht_take 7 (v := ?vn_6) rfl (by kernel_rfl) (fun _ _ _ h => h) (Or.inl ⟨by rfl, ?hn_6⟩) hHeld ?rn_6
    case hn_6 => ((intro V hSw; have y0 : V.cell? ⟨w.heap.size + 1 + 1 + 1, 1, none⟩ = some (.slice (some ⟨w.heap.size + 1 + 1, 0, none⟩) 2 2) := hSw.cell 1; go_simp); (try (with_reducible rfl)))
    try simp only [Act.put, List.setIfInBounds_toArray, List.set_cons_zero, List.set_cons_succ]
    refine ht_done (by kernel_rfl) rfl ?_
    have hS := (HX.out.below ((Below.refl _ _).drew)).push hown2 hgrow2 hat2
    have hC2 := ((HX.out.below ((Below.refl _ _).drew)).b2.alloc (.cells #[.int .i64 2, .string ⟨#[102]⟩, .string ⟨#[]⟩, .slice none 0 0, .slice none 0 0, .bool false, .string ⟨#[]⟩, .slice none 0 0, .slice none 0 0, .slice none 0 0] 33)).grown hgrow2 (Ne.symm (blk_own_ne (HX.out.below ((Below.refl _ _).drew)).own (HX.out.below ((Below.refl _ _).drew)).b2 (by decide)))
    have y8 : w2.cell? ⟨w.heap.size + 1 + 1, 8, none⟩ = some (.slice (some ⟨w.heap.size, 0, none⟩) 2 2) := hC2.cell 8
    have y8f := hC2.frozen 8
    have yd0 : w2.cell? ⟨w.heap.size + 1 + 1 + 1, 0, none⟩ = some (.slice none 0 0) := hHeld.cell 0
    have yd1 : w2.cell? ⟨w.heap.size + 1 + 1 + 1, 1, none⟩ = some (.slice (some ⟨w.heap.size + 1 + 1, 0, none⟩) 2 2) := hHeld.cell 1
    have HS := Lib.hid hS
    clear hS hC2 d0 d1 df1 hown2 hgrow2 hat2
    go_wp2_with fail
    refine (chor_small (d := ⟨[], [chA, chB (endsL ++ [itemK 2 ⟨#[102]⟩ ⟨#[]⟩])]⟩) 4 rd_nil (rd_two HS.out.b1 HS.out.b2 (HS.out.items (l := endsL ++ [itemK 2 ⟨#[102]⟩ ⟨#[]⟩]) (by rw [List.flatMap_append, List.flatMap_cons, List.flatMap_nil, List.append_nil]; exact rdl_ends.append (rdl_itemK _ _ _)))) hF (by decide +kernel) (by decide +kernel) (by decide)).mono ?_
    rintro e w4 ⟨vP, vF, vI, vS, rfl, ⟨hP, hF2, hI, hS⟩, hb4⟩
    obtain ⟨AP, cP, _, rfl, _, _⟩ := rd_sl.1 hP
    obtain ⟨AF, cF, _, rfl, _, _⟩ := rd_sl.1 hF2
    obtain ⟨AI, cI, _, rfl, _, _⟩ := rd_sl.1 hI
    obtain ⟨AS, cS, _, rfl, _, _⟩ := rd_sl.1 hS
    have HB4 := Lib.hid hb4
    have hl4 := hb4.size
    clear hP hF2 hI hS hb4
    go_wp2_with fail
    refine (inl_awake _).mono ?_
    rintro e w5 ⟨rfl, hb5⟩
    have hbc := (Blk.new w4 28 #[.string ⟨#[]⟩, .slice AP 0 cP, .slice AF 0 cF, .slice AI 0 cI, .slice AS 0 cS]).below hb5 (by simp)
    have c0 : w5.cell? ⟨w4.heap.size, 0, none⟩ = some (.string ⟨#[]⟩) := hbc.cell 0
    have c3 : w5.cell? ⟨w4.heap.size, 3, none⟩ = some (.slice AI 0 cI) := hbc.cell 3
    have HB5 := Lib.hid hb5
    clear hbc hb5
    go_wp2_with fail
    go_ret
    exact ⟨rfl, (((HS.out.bel).trans (HB4.out.mono (HS.out.bel).size)).alloc (by have := (HS.out.bel).size; omega) _).trans (HB5.out.mono (by have := (HS.out.bel).size; simp; omega))⟩
  · have hk := HK.out
    have hj := HJ.out
    have hj2 : 395 + j ≤ 402 := by omega
    clear df1
    go_wp2_with fail
    go_loopw [10] (fun iv wr => InBig w j iv wr) (fun iv _ => (395 + j - intOf iv).toNat)
    case atStart => exact ⟨0, by omega, rfl, _, by simpa [bigV] using HX.out⟩
    case round =>
      obtain ⟨i, hi, rfl, v, hS⟩ := hrel
      have d0 : wr.cell? ⟨w.heap.size + 1 + 1 + 1, 0, none⟩ = some (.slice none 0 0) := hS.bD.cell 0
      have d1 : wr.cell? ⟨w.heap.size + 1 + 1 + 1, 1, none⟩ = some (.slice (some ⟨w.heap.size + 1 + 1, 0, none⟩) 2 2) := hS.bD.cell 1
      have HS := Lib.hid hS
      have hszr := hS.bel.size
      clear hS
      by_cases hlt : (i : Int) < 395 + j
      · clear d0 d1
        go_upto_region 15 with fail
        go_cut [53] (fun bv wx => ∃ bb : Bool, bv = .bool bb ∧ Below wr.heap.size wr wx)
        case first =>
          go_region
          all_goals
            go_wp2_with fail
            go_meet
            case rel =>
              refine ⟨_, rfl, ?_⟩
              repeat (first | exact Below.refl _ _ | exact (Below.refl _ _).drew | refine Below.drew ?_ | refine Below.setCell ?_ (by simp) _ | refine Below.alloc ?_ (by simp) _)
        case rest =>
          obtain ⟨bb, rfl, hbx⟩ := hcut
          have hS2 := HS.out.below hbx
          obtain ⟨A, cap, rfl, _, _⟩ := own_slice hS2.own
          have c8 : wc.cell? ⟨w.heap.size + 1 + 1, 8, none⟩ = some (.slice A (2 + i) cap) := hS2.b2.cell 8
          have c8f := hS2.b2.frozen 8
          have d1 : wc.cell? ⟨w.heap.size + 1 + 1 + 1, 1, none⟩ = some (.slice (some ⟨w.heap.size + 1 + 1, 0, none⟩) 2 2) := hS2.bD.cell 1
          have HS2 := Lib.hid hS2
          have hszc := hS2.bel.size
          clear hS2 hbx HS hszr
          have hib : i ≤ 1000 := by omega
          rcases bb with _ | _
          · have HSd := Lib.hid (HS2.out.below ((Below.refl _ _).drew))
            go_upto_region 18 with fail
            refine wp_region_HT 12 (fun V => Blk V (w.heap.size + 1 + 1 + 1) 61 #[.slice none 0 0, .slice (some ⟨w.heap.size + 1 + 1, 0, none⟩) 2 2] ∧ Blk V (w.heap.size + 1 + 1) 28 #[.string ⟨#[97]⟩, .slice none 0 0, .slice none 0 0, .slice (some ⟨w.heap.size + 1, 0, none⟩) 1 1, .slice none 0 0, .string ⟨#[98]⟩, .slice none 0 0, .slice none 0 0, .slice A (2 + i) cap, .slice none 0 0]) (by kernel_rfl) (by decide) (⟨HS2.out.bD, HS2.out.b2⟩) (fun hHeld => ?_)
            refine ht_take 0 (v := ?vm_1) rfl (by kernel_rfl) (fun _ _ _ h => h) (Or.inl ⟨by rfl, ?hm_1⟩) hHeld ?rm_1
            case hm_1 => ((intro V hSw; have y0 : V.cell? ⟨w.heap.size + 1 + 1 + 1, 1, none⟩ = some (.slice (some ⟨w.heap.size + 1 + 1, 0, none⟩) 2 2) := hSw.1.cell 1; have y1 : V.cell? ⟨w.heap.size + 1 + 1, 8, none⟩ = some (.slice A (2 + i) cap) := hSw.2.cell 8; go_simp); (try (with_reducible rfl)))
            try simp only [Act.put, List.setIfInBounds_toArray, List.set_cons_zero, List.set_cons_succ]
            refine ht_take 1 (v := ?vm_2) rfl (by kernel_rfl) (fun _ _ _ h => h) (Or.inl ⟨by rfl, ?hm_2⟩) hHeld ?rm_2
            case hm_2 => ((intro V hSw; have y0 : V.cell? ⟨w.heap.size + 1 + 1 + 1, 1, none⟩ = some (.slice (some ⟨w.heap.size + 1 + 1, 0, none⟩) 2 2) := hSw.1.cell 1; have y1 : V.cell? ⟨w.heap.size + 1 + 1, 8, none⟩ = some (.slice A (2 + i) cap) := hSw.2.cell 8; go_simp); (try (with_reducible rfl)))
            try simp only [Act.put, List.setIfInBounds_toArray, List.set_cons_zero, List.set_cons_succ]
            refine ht_take 2 (v := ?vm_3) rfl (by kernel_rfl) (fun _ _ _ h => h) (Or.inl ⟨by rfl, ?hm_3⟩) hHeld ?rm_3
            case hm_3 => ((intro V hSw; have y0 : V.cell? ⟨w.heap.size + 1 + 1 + 1, 1, none⟩ = some (.slice (some ⟨w.heap.size + 1 + 1, 0, none⟩) 2 2) := hSw.1.cell 1; have y1 : V.cell? ⟨w.heap.size + 1 + 1, 8, none⟩ = some (.slice A (2 + i) cap) := hSw.2.cell 8; go_simp); (try (with_reducible rfl)))
            try simp only [Act.put, List.setIfInBounds_toArray, List.set_cons_zero, List.set_cons_succ]
            refine ht_take 3 (v := ?vm_4) rfl (by kernel_rfl) (fun _ _ _ h => h) (Or.inl ⟨by rfl, ?hm_4⟩) hHeld ?rm_4
            case hm_4 => ((intro V hSw; have y0 : V.cell? ⟨w.heap.size + 1 + 1 + 1, 1, none⟩ = some (.slice (some ⟨w.heap.size + 1 + 1, 0, none⟩) 2 2) := hSw.1.cell 1; have y1 : V.cell? ⟨w.heap.size + 1 + 1, 8, none⟩ = some (.slice A (2 + i) cap) := hSw.2.cell 8; go_simp); (try (with_reducible rfl)))
            try simp only [Act.put, List.setIfInBounds_toArray, List.set_cons_zero, List.set_cons_succ]
            refine ht_take 4 (v := ?vm_5) rfl (by kernel_rfl) (fun _ _ _ h => h) (Or.inl ⟨by rfl, ?hm_5⟩) hHeld ?rm_5
            case hm_5 => ((intro V hSw; have y0 : V.cell? ⟨w.heap.size + 1 + 1 + 1, 1, none⟩ = some (.slice (some ⟨w.heap.size + 1 + 1, 0, none⟩) 2 2) := hSw.1.cell 1; have y1 : V.cell? ⟨w.heap.size + 1 + 1, 8, none⟩ = some (.slice A (2 + i) cap) := hSw.2.cell 8; go_simp); (try (with_reducible rfl)))
            try simp only [Act.put, List.setIfInBounds_toArray, List.set_cons_zero, List.set_cons_succ]
            refine ht_take 5 (v := ?vm_6) rfl (by kernel_rfl) (fun _ _ _ h => h) (Or.inl ⟨by rfl, ?hm_6⟩) hHeld ?rm_6
            case hm_6 => ((intro V hSw; have y0 : V.cell? ⟨w.heap.size + 1 + 1 + 1, 1, none⟩ = some (.slice (some ⟨w.heap.size + 1 + 1, 0, none⟩) 2 2) := hSw.1.cell 1; have y1 : V.cell? ⟨w.heap.size + 1 + 1, 8, none⟩ = some (.slice A (2 + i) cap) := hSw.2.cell 8; go_simp); (try (with_reducible rfl)))
            try simp only [Act.put, List.setIfInBounds_toArray, List.set_cons_zero, List.set_cons_succ]
            refine ht_take 6 (v := ?vm_7) rfl (by kernel_rfl) (fun _ _ _ h => h) (Or.inl ⟨by rfl, ?hm_7⟩) hHeld ?rm_7
            case hm_7 => ((intro V hSw; have y0 : V.cell? ⟨w.heap.size + 1 + 1 + 1, 1, none⟩ = some (.slice (some ⟨w.heap.size + 1 + 1, 0, none⟩) 2 2) := hSw.1.cell 1; have y1 : V.cell? ⟨w.heap.size + 1 + 1, 8, none⟩ = some (.slice A (2 + i) cap) := hSw.2.cell 8; go_simp); (try (with_reducible rfl)))
            try simp only [Act.put, List.setIfInBounds_toArray, List.set_cons_zero, List.set_cons_succ]
            refine ht_take 7 (v := ?vm_8) rfl (by kernel_rfl) (fun _ _ _ h => h) (Or.inl ⟨by rfl, ?hm_8⟩) hHeld ?rm_8
            case hm_8 => ((intro V hSw; have y0 : V.cell? ⟨w.heap.size + 1 + 1 + 1, 1, none⟩ = some (.slice (some ⟨w.heap.size + 1 + 1, 0, none⟩) 2 2) := hSw.1.cell 1; have y1 : V.cell? ⟨w.heap.size + 1 + 1, 8, none⟩ = some (.slice A (2 + i) cap) := hSw.2.cell 8; go_simp); (try (with_reducible rfl)))
            try simp only [Act.put, List.setIfInBounds_toArray, List.set_cons_zero, List.set_cons_succ]
            refine ht_one 8 rfl (by kernel_rfl) (fun K hK => ?_)
            go_simp
            refine hK.out _ _ (⟨hHeld.1.alloc _, hHeld.2.alloc _⟩) (fun hHeld => ?_)
            clear hK K
            try simp only [Act.put, List.setIfInBounds_toArray, List.set_cons_zero, List.set_cons_succ]
            refine ht_one 9 rfl (by kernel_rfl) (fun K hK => ?_)
            refine step_append_lies _ (by rfl) (.tmp 72) (.tmp 74) _ (by rfl) w.heap.size 33 i0 _ 10 184 Try.underlying25 hi0 hz0 hz1 hz2 rfl (by omega) (.slice A (2 + i) cap) (2 + i) (bigV i) (by rfl) (HSd.out.own.alloc _) ⟨wc.heap.size, 0, none⟩ 1 1 [.int .i64 4, .string ⟨#[103]⟩, .string ⟨#[]⟩, .slice none 0 0, .slice none 0 0, .bool false, .string ⟨#[]⟩, .slice none 0 0, .slice none 0 0, .slice none 0 0] (by rfl) (by rfl) (World.news_of_block (cs := #[.int .i64 4, .string ⟨#[103]⟩, .string ⟨#[]⟩, .slice none 0 0, .slice none 0 0, .bool false, .string ⟨#[]⟩, .slice none 0 0, .slice none 0 0, .slice none 0 0]) (t := 33) (fr := (0, 0)) (heap_alloc_new wc.drew _)) (by simp [Value.oneCell']) (by omega) (by unfold maxLen; omega) (by omega) (by simp; omega) (wc.heap.size + 1) (by simp) ?_
            intro gA capA w2 hown2 hgrow2 hat2 hlt2
            refine hK.out _ _ (⟨hHeld.1.grown hgrow2 (Ne.symm (blk_own_ne (HSd.out.own.alloc _) hHeld.1 (by decide))), hHeld.2.grown hgrow2 (Ne.symm (blk_own_ne (HSd.out.own.alloc _) hHeld.2 (by decide)))⟩) (fun hHeld => ?_)
            clear hK K
            try simp only [Act.put, List.setIfInBounds_toArray, List.set_cons_zero, List.set_cons_succ]
            refine ht_take 10 (v := ?vm_9) rfl (by kernel_rfl) (fun _ _ _ h => h) (Or.inl ⟨by rfl, ?hm_9⟩) hHeld ?rm_9
            case hm_9 => ((intro V hSw; have y0 : V.cell? ⟨w.heap.size + 1 + 1 + 1, 1, none⟩ = some (.slice (some ⟨w.heap.size + 1 + 1, 0, none⟩) 2 2) := hSw.1.cell 1; have y1 : V.cell? ⟨w.heap.size + 1 + 1, 8, none⟩ = some (.slice A (2 + i) cap) := hSw.2.cell 8; go_simp); (try (with_reducible rfl)))
            try simp only [Act.put, List.setIfInBounds_toArray, List.set_cons_zero, List.set_cons_succ]
            refine ht_take 11 (v := ?vm_10) rfl (by kernel_rfl) (fun _ _ _ h => h) (Or.inl ⟨by rfl, ?hm_10⟩) hHeld ?rm_10
            case hm_10 => ((intro V hSw; have y0 : V.cell? ⟨w.heap.size + 1 + 1 + 1, 1, none⟩ = some (.slice (some ⟨w.heap.size + 1 + 1, 0, none⟩) 2 2) := hSw.1.cell 1; have y1 : V.cell? ⟨w.heap.size + 1 + 1, 8, none⟩ = some (.slice A (2 + i) cap) := hSw.2.cell 8; go_simp); (try (with_reducible rfl)))
            try simp only [Act.put, List.setIfInBounds_toArray, List.set_cons_zero, List.set_cons_succ]
            refine ht_done (by kernel_rfl) rfl ?_
            have hS3 := HSd.out.push hown2 hgrow2 hat2
            have y8 : w2.cell? ⟨w.heap.size + 1 + 1, 8, none⟩ = some (.slice A (2 + i) cap) := hHeld.2.cell 8
            have y8f := hHeld.2.frozen 8
            have HS3 := Lib.hid hS3
            clear hS3 hown2 hgrow2 hat2 c8 c8f d1
            go_wp2_with fail
            go_roundw
            case rel => exact ⟨i + 1, by omega, by go_num, _, by rw [bigV_succ]; exact HS3.out⟩
            case measure => simp [intOf]; omega
          · have hin0 : (0 : Int) ≤ 2 + (i : Int) := by omega
            have hin1 : (2 + (i : Int)).toNat = 2 + i := by omega
            go_wp2_with (at_builtin; refine wpList_append_lies _ rfl (.tmp 58) (.tmp 61) _ rfl w.heap.size 33 i0 _ 10 184 Try.underlying25 hi0 hz0 hz1 hz2 rfl (by omega) (.slice A (2 + i) cap) (2 + i) (bigV i) rfl (HS2.out.own.alloc _) ⟨wc.heap.size, 0, none⟩ 1 1 [.int .i64 0, .string ⟨#[]⟩, .string ⟨#[]⟩, .slice none 0 0, .slice none 0 0, .bool false, .string ⟨#[]⟩, .slice none 0 0, .slice none 0 0, .slice none 0 0] rfl rfl (World.news_of_block (cs := #[.int .i64 0, .string ⟨#[]⟩, .string ⟨#[]⟩, .slice none 0 0, .slice none 0 0, .bool false, .string ⟨#[]⟩, .slice none 0 0, .slice none 0 0, .slice none 0 0]) (t := 33) (fr := (0, 0)) (heap_alloc_new wc _)) (by simp [Value.oneCell']) (by omega) (by unfold maxLen; omega) (by omega) (by simp; omega) (wc.heap.size + 1) (by simp) ?_)
            intro gA capA w2 hown2 hgrow2 hat2 hlt2
            have hS3 := HS2.out.push hown2 hgrow2 hat2
            have hC2 := (HS2.out.b2.alloc (.cells #[.int .i64 0, .string ⟨#[]⟩, .string ⟨#[]⟩, .slice none 0 0, .slice none 0 0, .bool false, .string ⟨#[]⟩, .slice none 0 0, .slice none 0 0, .slice none 0 0] 33)).grown hgrow2 (Ne.symm (blk_own_ne HS2.out.own HS2.out.b2 (by decide)))
            have y8 : w2.cell? ⟨w.heap.size + 1 + 1, 8, none⟩ = some (.slice A (2 + i) cap) := hC2.cell 8
            have y8f := hC2.frozen 8
            have HS3 := Lib.hid hS3
            have HS4 := Lib.hid (hS3.last (vs := gV) (bigV_len i) rfl rfl)
            have hcz : ∀ t, t < 10 → w2.cell? ⟨gA, (2 + i) * 10 + t, none⟩ = [.int .i64 0, .string ⟨#[]⟩, .string ⟨#[]⟩, .slice none 0 0, .slice none 0 0, .bool false, .string ⟨#[]⟩, .slice none 0 0, .slice none 0 0, .slice none 0 0][t]? := fun t ht => by
              rw [hown2.cellAt _ (by omega), List.getElem?_append_right (by rw [bigV_len]; omega), bigV_len, Nat.add_sub_cancel_left]
            have q0 : w2.cell? ⟨gA, (2 + i) * 10 + 0, none⟩ = some (.int .i64 0) := (hcz 0 (by decide)).trans rfl
            have p0 : w2.frozen? ⟨gA, (2 + i) * 10 + 0, none⟩ = false := hown2.frozenAt _
            have q1 : w2.cell? ⟨gA, (2 + i) * 10 + 1, none⟩ = some (.string ⟨#[]⟩) := (hcz 1 (by decide)).trans rfl
            have p1 : w2.frozen? ⟨gA, (2 + i) * 10 + 1, none⟩ = false := hown2.frozenAt _
            have q2 : w2.cell? ⟨gA, (2 + i) * 10 + 2, none⟩ = some (.string ⟨#[]⟩) := (hcz 2 (by decide)).trans rfl
            have p2 : w2.frozen? ⟨gA, (2 + i) * 10 + 2, none⟩ = false := hown2.frozenAt _
            have q3 : w2.cell? ⟨gA, (2 + i) * 10 + 3, none⟩ = some (.slice none 0 0) := (hcz 3 (by decide)).trans rfl
            have p3 : w2.frozen? ⟨gA, (2 + i) * 10 + 3, none⟩ = false := hown2.frozenAt _
            have q4 : w2.cell? ⟨gA, (2 + i) * 10 + 4, none⟩ = some (.slice none 0 0) := (hcz 4 (by decide)).trans rfl
            have p4 : w2.frozen? ⟨gA, (2 + i) * 10 + 4, none⟩ = false := hown2.frozenAt _
            have q5 : w2.cell? ⟨gA, (2 + i) * 10 + 5, none⟩ = some (.bool false) := (hcz 5 (by decide)).trans rfl
            have p5 : w2.frozen? ⟨gA, (2 + i) * 10 + 5, none⟩ = false := hown2.frozenAt _
            have q6 : w2.cell? ⟨gA, (2 + i) * 10 + 6, none⟩ = some (.string ⟨#[]⟩) := (hcz 6 (by decide)).trans rfl
            have p6 : w2.frozen? ⟨gA, (2 + i) * 10 + 6, none⟩ = false := hown2.frozenAt _
            have q7 : w2.cell? ⟨gA, (2 + i) * 10 + 7, none⟩ = some (.slice none 0 0) := (hcz 7 (by decide)).trans rfl
            have p7 : w2.frozen? ⟨gA, (2 + i) * 10 + 7, none⟩ = false := hown2.frozenAt _
            have q8 : w2.cell? ⟨gA, (2 + i) * 10 + 8, none⟩ = some (.slice none 0 0) := (hcz 8 (by decide)).trans rfl
            have p8 : w2.frozen? ⟨gA, (2 + i) * 10 + 8, none⟩ = false := hown2.frozenAt _
            have q9 : w2.cell? ⟨gA, (2 + i) * 10 + 9, none⟩ = some (.slice none 0 0) := (hcz 9 (by decide)).trans rfl
            have p9 : w2.frozen? ⟨gA, (2 + i) * 10 + 9, none⟩ = false := hown2.frozenAt _
            have hgf : ∀ t, w2.frozen? ⟨gA, (2 + i) * 10 + t, none⟩ = false := fun t => hown2.frozenAt _
            have qa : w2.cell? ⟨gA, (2 + i) * 10, none⟩ = some (.int .i64 0) := (hcz 0 (by decide)).trans rfl
            have qb : w2.frozen? ⟨gA, (2 + i) * 10, none⟩ = false := hgf 0
            have n2 : ¬ (w.heap.size + 1 + 1 = gA) := fun e => (blk_own_ne hS3.own hS3.b2 (by decide)) (by simp [Value.ownBlock, e])
            have n3 : ¬ (gA = w.heap.size + 1 + 1) := fun e => n2 e.symm
            clear hS3 hC2 hown2 hgrow2 hat2 hcz hgf
            go_wp2_with fail
            go_roundw
            case rel => exact ⟨i + 1, by omega, by go_num, _, by rw [bigV_succ]; exact HS4.out⟩
            case measure => simp [intOf]; omega
      · have hij : (i : Int) = 395 + j := by omega
        have hi1 : 395 ≤ i := by omega
        have hi2 : i ≤ 402 := by omega
        obtain ⟨he, hsm, hct⟩ := big_k i hi1 hi2
        have hS' : BadS w v (endsL ++ List.replicate i gI).length (bigV i) wr := by
          have := HS.out
          rwa [show 2 + i = (endsL ++ List.replicate i gI).length by simp [endsL]; omega] at this
        have HS' := Lib.hid hS'
        have HSM := Lib.hid hsm
        have HCT := Lib.hid hct
        clear hS' hsm hct HS
        by_cases hbig : (400 : Int) < 395 + j + 3
        · rw [if_pos (by omega)] at he
          obtain ⟨c, hF⟩ := errB_spec he (by decide)
          obtain rfl := chorF_err hF (by decide)
          clear he hij
          go_wp2_with fail
          refine (chor_small (d := bigD i) 4 rd_nil (rd_two HS'.out.b1 HS'.out.b2 (HS'.out.items (l := endsL ++ List.replicate i gI) (rdl_big i))) hF HSM.out HCT.out (by decide)).mono ?_
          rintro e w4 ⟨vP, vF, vI, vS, rfl, ⟨hP, hF2, hI, hS⟩, hb4⟩
          obtain ⟨AP, cP, _, rfl, _, _⟩ := rd_sl.1 hP
          obtain ⟨AF, cF, _, rfl, _, _⟩ := rd_sl.1 hF2
          obtain ⟨AI, cI, _, rfl, _, _⟩ := rd_sl.1 hI
          obtain ⟨AS, cS, _, rfl, _, _⟩ := rd_sl.1 hS
          have HB4 := Lib.hid hb4
          have hl4 := hb4.size
          clear hP hF2 hI hS hb4
          go_wp2_with fail
          refine (inl_awake _).mono ?_
          rintro e w5 ⟨rfl, hb5⟩
          have hbc := (Blk.new w4 28 #[.string ⟨#[]⟩, .slice AP 0 cP, .slice AF 0 cF, .slice AI 0 cI, .slice AS 0 cS]).below hb5 (by simp)
          have c0 : w5.cell? ⟨w4.heap.size, 0, none⟩ = some (.string ⟨#[]⟩) := hbc.cell 0
          have c3 : w5.cell? ⟨w4.heap.size, 3, none⟩ = some (.slice AI 0 cI) := hbc.cell 3
          have HB5 := Lib.hid hb5
          clear hbc hb5
          go_wp2_with fail
          go_ret
          exact ⟨rfl, (((HS'.out.bel).trans (HB4.out.mono (HS'.out.bel).size)).alloc (by have := (HS'.out.bel).size; omega) _).trans (HB5.out.mono (by have := (HS'.out.bel).size; simp; omega))⟩
        · rw [if_neg (by omega)] at he
          obtain ⟨c, hF⟩ := errB_spec he (by decide)
          clear he hij
          go_wp2_with fail
          refine (chor_small (d := bigD i) 4 rd_nil (rd_two HS'.out.b1 HS'.out.b2 (HS'.out.items (l := endsL ++ List.replicate i gI) (rdl_big i))) hF HSM.out HCT.out (by decide)).mono ?_
          rintro e w4 ⟨vP, vF, vI, vS, rfl, ⟨hP, hF2, hI, hS⟩, hb4⟩
          obtain ⟨AP, cP, _, rfl, _, _⟩ := rd_sl.1 hP
          obtain ⟨AF, cF, _, rfl, _, _⟩ := rd_sl.1 hF2
          obtain ⟨AI, cI, _, rfl, _, _⟩ := rd_sl.1 hI
          obtain ⟨AS, cS, _, rfl, _, _⟩ := rd_sl.1 hS
          have HB4 := Lib.hid hb4
          have hl4 := hb4.size
          clear hP hF2 hI hS hb4
          go_wp2_with fail
          refine (inl_awake _).mono ?_
          rintro e w5 ⟨rfl, hb5⟩
          have hbc := (Blk.new w4 28 #[.string c.id, .slice AP c.parts.length cP, .slice AF c.flows.length cF, .slice AI c.items.length cI, .slice AS c.seqs.length cS]).below hb5 (by simp)
          have c0 : w5.cell? ⟨w4.heap.size, 0, none⟩ = some (.string c.id) := hbc.cell 0
          have c3 : w5.cell? ⟨w4.heap.size, 3, none⟩ = some (.slice AI c.items.length cI) := hbc.cell 3
          have HB5 := Lib.hid hb5
          clear hbc hb5
          go_wp2_with fail
          go_ret
          exact ⟨rfl, (((HS'.out.bel).trans (HB4.out.mono (HS'.out.bel).size)).alloc (by have := (HS'.out.bel).size; omega) _).trans (HB5.out.mono (by have := (HS'.out.bel).size; simp; omega))⟩
  · have hk := HK.out
    obtain ⟨c, hF⟩ := errB_spec bad3 (by decide)
    go_wp2_with fail
    refine (chor_small (d := ⟨[], [chA, chB endsL]⟩) 4 rd_nil (rd_two HX.out.b1 HX.out.b2 (HX.out.items (l := endsL) rdl_ends)) hF (by decide +kernel) (by decide +kernel) (by decide)).mono ?_
    rintro e w4 ⟨vP, vF, vI, vS, rfl, ⟨hP, hF2, hI, hS⟩, hb4⟩
    obtain ⟨AP, cP, _, rfl, _, _⟩ := rd_sl.1 hP
    obtain ⟨AF, cF, _, rfl, _, _⟩ := rd_sl.1 hF2
    obtain ⟨AI, cI, _, rfl, _, _⟩ := rd_sl.1 hI
    obtain ⟨AS, cS, _, rfl, _, _⟩ := rd_sl.1 hS
    have HB4 := Lib.hid hb4
    have hl4 := hb4.size
    clear hP hF2 hI hS hb4
    go_wp2_with fail
    refine (inl_awake _).mono ?_
    rintro e w5 ⟨rfl, hb5⟩
    have hbc := (Blk.new w4 28 #[.string c.id, .slice AP c.parts.length cP, .slice AF c.flows.length cF, .slice AI c.items.length cI, .slice AS c.seqs.length cS]).below hb5 (by simp)
    have c0 : w5.cell? ⟨w4.heap.size, 0, none⟩ = some (.string c.id) := hbc.cell 0
    have c3 : w5.cell? ⟨w4.heap.size, 3, none⟩ = some (.slice AI c.items.length cI) := hbc.cell 3
    have HB5 := Lib.hid hb5
    clear hbc hb5
    go_wp2_with fail
    go_ret
    exact ⟨rfl, (((HX.out.bel).trans (HB4.out.mono (HX.out.bel).size)).alloc (by have := (HX.out.bel).size; omega) _).trans (HB5.out.mono (by have := (HX.out.bel).size; simp; omega))⟩
end Go.Proofs.Yteoioboiniealaa
