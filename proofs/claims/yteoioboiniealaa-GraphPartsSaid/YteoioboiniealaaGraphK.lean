/- graph.Round on the graph of awake; awake of the law's package. -/
import Derived.Test.YteoioboiniealaaGraphJ
namespace Go.Proofs.Yteoioboiniealaa
open Go.RowKit

theorem round_awake {w : World} {AN AE : Option Addr} {cN cE : Nat} (h : Gr w none none AN AE 0 0 cN cE 0 0 [gnA, gnB] [(0, 1)]) :
    Calls Try.prog 42 #[.agg #[.slice none 0 0, .slice none 0 0, .slice AN 2 cN, .slice AE 1 cE]] w fun e w' => e = .returned (.bool false) ∧ Below w.heap.size w w' := by
  have H := Lib.hid h
  clear h
  go_enter Try.func42, Try.ntmps42
  go_wp2_with fail
  have hG := H.out.below ((Below.refl _ _).alloc (Nat.le_refl _) (.cells #[.slice none 0 0, .slice none 0 0, .slice AN 2 cN, .slice AE 1 cE] 44))
  have HG := Lib.hid hG
  clear hG
  have blk := heap_alloc_new w (.cells #[.slice none 0 0, .slice none 0 0, .slice AN 2 cN, .slice AE 1 cE] 44)
  obtain ⟨W, hW⟩ : ∃ W, W = w.alloc (.cells #[.slice none 0 0, .slice none 0 0, .slice AN 2 cN, .slice AE 1 cE] 44) := ⟨_, rfl⟩
  rw [← hW] at blk HG ⊢
  have hsz : W.heap.size = w.heap.size + 1 := by rw [hW]; simp
  have hend : Below w.heap.size w W := by rw [hW]; exact (Below.refl _ _).alloc (Nat.le_refl _) _
  have Hend := Lib.hid hend
  have Hsz := Lib.hid hsz
  have x0 : W.cell? ⟨w.heap.size, 0, none⟩ = some (.slice none 0 0) := by rw [cell_of_row _ w.heap.size 0 _ _ _ blk]; rfl
  have x1 : W.cell? ⟨w.heap.size, 1, none⟩ = some (.slice none 0 0) := by rw [cell_of_row _ w.heap.size 1 _ _ _ blk]; rfl
  have x2 : W.cell? ⟨w.heap.size, 2, none⟩ = some (.slice AN 2 cN) := by rw [cell_of_row _ w.heap.size 2 _ _ _ blk]; rfl
  have x3 : W.cell? ⟨w.heap.size, 3, none⟩ = some (.slice AE 1 cE) := by rw [cell_of_row _ w.heap.size 3 _ _ _ blk]; rfl
  clear hW hend hsz blk
  go_region_held3 (fun w' => w'.cell? ⟨w.heap.size, 0, none⟩ = some (.slice none 0 0) ∧ w'.cell? ⟨w.heap.size, 1, none⟩ = some (.slice none 0 0) ∧ w'.cell? ⟨w.heap.size, 2, none⟩ = some (.slice AN 2 cN) ∧ w'.cell? ⟨w.heap.size, 3, none⟩ = some (.slice AE 1 cE))
    (first | go_keep | (go_split_ands; refine ⟨?_, ?_, ?_, ?_⟩ <;> exact (hB.cell (by have := Hsz.out; simp; omega)).trans (by assumption)))
    ((go_at_call 66; refine (order_awake (HG.out.below (Below.refl _ _).drew)).mono ?_; rintro e w1 ⟨A, c, rfl, hB⟩))
  all_goals
    go_wp2_with fail
    go_ret
    exact ⟨rfl, (Hend.out.drew).trans (hB.mono (by have := Hsz.out; simp; omega))⟩

/-- The graph of awake, in memory. -/
theorem gr_awake (w : World) : Gr ((w.alloc (.cells #[.int .i64 1, .string ⟨#[]⟩, .int .i64 0, .int .i64 0, .int .i64 0, .int .i64 0, .bool false, .int .i64 2, .string ⟨#[]⟩, .int .i64 0, .int .i64 0, .int .i64 0, .int .i64 0, .bool false] 55)).alloc (.cells #[.int .i64 0, .int .i64 1] 53)) none none (some ⟨w.heap.size, 0, none⟩) (some ⟨w.heap.size + 1, 0, none⟩) 0 0 2 1 0 0 [gnA, gnB] [(0, 1)] := by
  refine ⟨⟨[], World.ownsRow_nil _ _ _ _⟩, ⟨[], World.ownsRow_nil _ _ _ _⟩, ?_, ?_⟩
  · exact (World.ownsRow_lit (base := 0) (size := 7) w #[.int .i64 1, .string ⟨#[]⟩, .int .i64 0, .int .i64 0, .int .i64 0, .int .i64 0, .bool false, .int .i64 2, .string ⟨#[]⟩, .int .i64 0, .int .i64 0, .int .i64 0, .int .i64 0, .bool false] 2 (by omega) (by unfold maxLen; omega) rfl).alloc _
  · have := World.ownsRow_lit (base := 0) (size := 2) (e := 53) (w.alloc (.cells #[.int .i64 1, .string ⟨#[]⟩, .int .i64 0, .int .i64 0, .int .i64 0, .int .i64 0, .bool false, .int .i64 2, .string ⟨#[]⟩, .int .i64 0, .int .i64 0, .int .i64 0, .int .i64 0, .bool false] 55)) #[.int .i64 0, .int .i64 1] 1 (by omega) (by unfold maxLen; omega) rfl
    simpa [flatE] using this

set_option maxHeartbeats 4000000 in
set_option maxRecDepth 100000 in
theorem graph_awake (w : World) :
    Calls Try.prog 15 #[] w fun e w' => e = .returned (.bool true) ∧ Below w.heap.size w w' := by
  have h1 : checkF 0 0 [gnA, gnB] [(0, 1)] = 0 := by decide +kernel
  have h2 : findFrom isStart [gnA, gnB] 0 = 0 := by decide +kernel
  have h4 : outN [(0, 1)] 0 = 1 := by decide +kernel
  have h5 : (placesFrom isTask [gnA, gnB] 0).length = 0 := by decide +kernel
  have H1 := Lib.hid h1
  have H2 := Lib.hid h2
  have H4 := Lib.hid h4
  have H5 := Lib.hid h5
  have hgr := (gr_awake w).below ((Below.refl _ _).alloc (Nat.le_refl _) (.cells #[.slice none 0 0, .slice none 0 0, .slice (some ⟨w.heap.size, 0, none⟩) 2 2, .slice (some ⟨w.heap.size + 1, 0, none⟩) 1 1] 44))
  have hg : Blk (((w.alloc (.cells #[.int .i64 1, .string ⟨#[]⟩, .int .i64 0, .int .i64 0, .int .i64 0, .int .i64 0, .bool false, .int .i64 2, .string ⟨#[]⟩, .int .i64 0, .int .i64 0, .int .i64 0, .int .i64 0, .bool false] 55)).alloc (.cells #[.int .i64 0, .int .i64 1] 53)).alloc (.cells #[.slice none 0 0, .slice none 0 0, .slice (some ⟨w.heap.size, 0, none⟩) 2 2, .slice (some ⟨w.heap.size + 1, 0, none⟩) 1 1] 44)) (w.heap.size + 1 + 1) 44 #[.slice none 0 0, .slice none 0 0, .slice (some ⟨w.heap.size, 0, none⟩) 2 2, .slice (some ⟨w.heap.size + 1, 0, none⟩) 1 1] := by
    have := Blk.new ((w.alloc (.cells #[.int .i64 1, .string ⟨#[]⟩, .int .i64 0, .int .i64 0, .int .i64 0, .int .i64 0, .bool false, .int .i64 2, .string ⟨#[]⟩, .int .i64 0, .int .i64 0, .int .i64 0, .int .i64 0, .bool false] 55)).alloc (.cells #[.int .i64 0, .int .i64 1] 53)) 44 #[.slice none 0 0, .slice none 0 0, .slice (some ⟨w.heap.size, 0, none⟩) 2 2, .slice (some ⟨w.heap.size + 1, 0, none⟩) 1 1]
    simpa using this
  have hbw : Below w.heap.size w (((w.alloc (.cells #[.int .i64 1, .string ⟨#[]⟩, .int .i64 0, .int .i64 0, .int .i64 0, .int .i64 0, .bool false, .int .i64 2, .string ⟨#[]⟩, .int .i64 0, .int .i64 0, .int .i64 0, .int .i64 0, .bool false] 55)).alloc (.cells #[.int .i64 0, .int .i64 1] 53)).alloc (.cells #[.slice none 0 0, .slice none 0 0, .slice (some ⟨w.heap.size, 0, none⟩) 2 2, .slice (some ⟨w.heap.size + 1, 0, none⟩) 1 1] 44)) := (((Below.refl _ _).alloc (Nat.le_refl _) _).alloc (by simp) _).alloc (by simp; omega) _
  have hws : (((w.alloc (.cells #[.int .i64 1, .string ⟨#[]⟩, .int .i64 0, .int .i64 0, .int .i64 0, .int .i64 0, .bool false, .int .i64 2, .string ⟨#[]⟩, .int .i64 0, .int .i64 0, .int .i64 0, .int .i64 0, .bool false] 55)).alloc (.cells #[.int .i64 0, .int .i64 1] 53)).alloc (.cells #[.slice none 0 0, .slice none 0 0, .slice (some ⟨w.heap.size, 0, none⟩) 2 2, .slice (some ⟨w.heap.size + 1, 0, none⟩) 1 1] 44)).heap.size = w.heap.size + 1 + 1 + 1 := by simp
  have HGr := Lib.hid hgr
  have HG := Lib.hid hg
  have HBW := Lib.hid hbw
  have HWS := Lib.hid hws
  clear h1 h2 h4 h5 hgr hg hbw hws
  go_enter Try.func15, Try.ntmps15
  go_wp2_with fail
  generalize (((w.alloc (.cells #[.int .i64 1, .string ⟨#[]⟩, .int .i64 0, .int .i64 0, .int .i64 0, .int .i64 0, .bool false, .int .i64 2, .string ⟨#[]⟩, .int .i64 0, .int .i64 0, .int .i64 0, .int .i64 0, .bool false] 55)).alloc (.cells #[.int .i64 0, .int .i64 1] 53)).alloc (.cells #[.slice none 0 0, .slice none 0 0, .slice (some ⟨w.heap.size, 0, none⟩) 2 2, .slice (some ⟨w.heap.size + 1, 0, none⟩) 1 1] 44)) = W at *
  refine (check_any (HGr.out.below (Below.refl _ _)) (by simp) (by simp)).mono ?_
  rintro e w1 ⟨rfl, hb1⟩
  have HB1 := Lib.hid hb1
  clear hb1
  obtain ⟨g0, g1, g2, g3⟩ := cells4 HB1.out HG.out.lt HG.out
  try simp only [H1.out]
  go_wp2_with fail
  clear g0 g1 g2 g3
  refine (places_any (HGr.out.below HB1.out) (by simp) (by simp)).mono ?_
  rintro e w2 ⟨rfl, hb2⟩
  have HB2 := Lib.hid (HB1.out.trans (hb2.mono HB1.out.size))
  clear hb2
  obtain ⟨g0, g1, g2, g3⟩ := cells4 HB2.out HG.out.lt HG.out
  try simp only [H5.out]
  go_wp2_with fail
  clear g0 g1 g2 g3
  refine (gstart_any (HGr.out.below HB2.out) (by simp)).mono ?_
  rintro e w3 ⟨rfl, hb3⟩
  have HB3 := Lib.hid (HB2.out.trans (hb3.mono HB2.out.size))
  clear hb3
  obtain ⟨g0, g1, g2, g3⟩ := cells4 HB3.out HG.out.lt HG.out
  try simp only [H2.out]
  go_wp2_with fail
  clear g0 g1 g2 g3
  refine (busy_any (HGr.out.below HB3.out) (by simp) (by simp) 0).mono ?_
  rintro e w4 ⟨rfl, hb4⟩
  have HB4 := Lib.hid (HB3.out.trans (hb4.mono HB3.out.size))
  clear hb4
  obtain ⟨g0, g1, g2, g3⟩ := cells4 HB4.out HG.out.lt HG.out
  go_wp2_with fail
  clear g0 g1 g2 g3
  refine (out_len (HGr.out.below HB4.out).edges (by simp) 0).mono ?_
  rintro e w5 ⟨A5, c5, rfl, hb5⟩
  have HB5 := Lib.hid (HB4.out.trans (hb5.mono HB4.out.size))
  clear hb5
  obtain ⟨g0, g1, g2, g3⟩ := cells4 HB5.out HG.out.lt HG.out
  try simp only [H4.out]
  go_wp2_with fail
  clear g0 g1 g2 g3
  refine (round_awake (HGr.out.below HB5.out)).mono ?_
  rintro e w6 ⟨rfl, hb6⟩
  have HB6 := Lib.hid (HB5.out.trans (hb6.mono HB5.out.size))
  clear hb6
  go_wp2_with fail
  go_ret
  exact ⟨rfl, HBW.out.trans (HB6.out.mono (by have := HWS.out; omega))⟩
end Go.Proofs.Yteoioboiniealaa
