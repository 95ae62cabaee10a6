/- The contracts of graph.Done and Places. -/
import Derived.Test.YteoioboiniealaaGraphC
import Derived.Deep.RegionHeld3
namespace Go.Proofs.Yteoioboiniealaa
open Go.RowKit

/-- The place of a task that may be done again. -/
def doneI (ns : List GN) (ne : Nat) (node : Int) : Int := if busyI ns ne node < 0 then -1 else busyI ns ne node + 1
theorem busyI_bd (ns : List GN) (ne : Nat) (node : Int) : -1 ≤ busyI ns ne node ∧ busyI ns ne node ≤ ne + 2 * ns.length := by
  have h := index_bd node (placesFrom isTask ns 0) 0
  have hl := placesFrom_len isTask ns 0
  unfold busyI
  split <;> omega

theorem done_any {w : World} {AP AM AN AE : Option Addr} {cP cM cN cE np nm : Nat} {ns : List GN} {es : List (Int × Int)} (h : Gr w AP AM AN AE cP cM cN cE np nm ns es) (hn : ns.length ≤ 1000000) (he : es.length ≤ 1000000) (node : Int) :
    Calls Try.prog 27 #[.agg #[.slice AP np cP, .slice AM nm cM, .slice AN ns.length cN, .slice AE es.length cE], .int .i64 node] w fun e w' => e = .returned (.int .i64 (doneI ns es.length node)) ∧ Below w.heap.size w w' := by
  have H := Lib.hid h
  clear h
  obtain ⟨q, hq⟩ : ∃ q, q = busyI ns es.length node := ⟨_, rfl⟩
  have hbd := busyI_bd ns es.length node
  rw [← hq] at hbd
  have hfin : doneI ns es.length node = if q < 0 then -1 else q + 1 := by unfold doneI; rw [← hq]
  have hb := busy_any (H.out.below ((Below.refl _ _).alloc (Nat.le_refl _) (.cells #[.slice AP np cP, .slice AM nm cM, .slice AN ns.length cN, .slice AE es.length cE] 44))) hn he node
  rw [← hq] at hb
  have Hb := Lib.hid hb
  have Hfin := Lib.hid hfin
  clear hq hfin hb
  obtain ⟨b0, b1⟩ := hbd
  go_enter Try.func27, Try.ntmps27
  go_wp2_with fail
  refine Hb.out.mono ?_
  rintro e w1 ⟨rfl, hB⟩
  have hend : Below w.heap.size w w1 := ((Below.refl _ _).alloc (Nat.le_refl _) _).trans (hB.mono (by simp))
  have Hend := Lib.hid hend
  clear hend hB
  by_cases h0 : q < 0
  · go_wp2_with fail
    go_ret
    exact ⟨by rw [Hfin.out, if_pos h0]; rfl, Hend.out⟩
  · go_wp2_with fail
    go_ret
    exact ⟨by rw [Hfin.out, if_neg (by omega)]; rfl, Hend.out⟩

theorem places_any {w : World} {AP AM AN AE : Option Addr} {cP cM cN cE np nm : Nat} {ns : List GN} {es : List (Int × Int)} (h : Gr w AP AM AN AE cP cM cN cE np nm ns es) (hn : ns.length ≤ 1000000) (he : es.length ≤ 1000000) :
    Calls Try.prog 30 #[.agg #[.slice AP np cP, .slice AM nm cM, .slice AN ns.length cN, .slice AE es.length cE]] w fun e w' => e = .returned (.int .i64 ((es.length : Int) + 2 * (placesFrom isTask ns 0).length)) ∧ Below w.heap.size w w' := by
  have H := Lib.hid h
  clear h
  have hlen := placesFrom_len isTask ns 0
  go_enter Try.func30, Try.ntmps30
  go_wp2_with fail
  have hG := H.out.below ((Below.refl _ _).alloc (Nat.le_refl _) (.cells #[.slice AP np cP, .slice AM nm cM, .slice AN ns.length cN, .slice AE es.length cE] 44))
  have HG := Lib.hid hG
  clear hG
  have blk := heap_alloc_new w (.cells #[.slice AP np cP, .slice AM nm cM, .slice AN ns.length cN, .slice AE es.length cE] 44)
  obtain ⟨W, hW⟩ : ∃ W, W = w.alloc (.cells #[.slice AP np cP, .slice AM nm cM, .slice AN ns.length cN, .slice AE es.length cE] 44) := ⟨_, rfl⟩
  rw [← hW] at blk HG ⊢
  have hsz : W.heap.size = w.heap.size + 1 := by rw [hW]; simp
  have hend : Below w.heap.size w W := by rw [hW]; exact (Below.refl _ _).alloc (Nat.le_refl _) _
  have Hend := Lib.hid hend
  have Hsz := Lib.hid hsz
  have Hblk := Lib.hid blk
  have x0 : W.cell? ⟨w.heap.size, 0, none⟩ = some (.slice AP np cP) := by rw [cell_of_row _ w.heap.size 0 _ _ _ blk]; rfl
  have x1 : W.cell? ⟨w.heap.size, 1, none⟩ = some (.slice AM nm cM) := by rw [cell_of_row _ w.heap.size 1 _ _ _ blk]; rfl
  have x2 : W.cell? ⟨w.heap.size, 2, none⟩ = some (.slice AN ns.length cN) := by rw [cell_of_row _ w.heap.size 2 _ _ _ blk]; rfl
  have x3 : W.cell? ⟨w.heap.size, 3, none⟩ = some (.slice AE es.length cE) := by rw [cell_of_row _ w.heap.size 3 _ _ _ blk]; rfl
  clear hW hend hsz blk
  go_region_held3 (fun w' => w'.cell? ⟨w.heap.size, 0, none⟩ = some (.slice AP np cP) ∧ w'.cell? ⟨w.heap.size, 1, none⟩ = some (.slice AM nm cM) ∧ w'.cell? ⟨w.heap.size, 2, none⟩ = some (.slice AN ns.length cN) ∧ w'.cell? ⟨w.heap.size, 3, none⟩ = some (.slice AE es.length cE))
    (first | go_keep | (go_split_ands; refine ⟨?_, ?_, ?_, ?_⟩ <;> exact (hB.cell (by have := Hsz.out; simp; omega)).trans (by assumption)))
    ((go_at_call 29; refine (tasks_any HG.out.nodes.drew hn).mono ?_; rintro e w1 ⟨A, c, rfl, hO, hB⟩))
  all_goals
    go_wp2_with fail
    go_ret
    exact ⟨ret_int (by simp only [IntKind.wrap_i64]; omega), (Hend.out.drew).trans (hB.mono (by have := Hsz.out; simp; omega))⟩
end Go.Proofs.Yteoioboiniealaa
