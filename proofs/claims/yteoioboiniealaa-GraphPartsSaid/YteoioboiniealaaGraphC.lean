/- The contracts of graph.Busy, Done, Places and Start. -/
import Derived.Test.YteoioboiniealaaGraphB
namespace Go.Proofs.Yteoioboiniealaa
open Go.RowKit

/-- A graph's four slices, in memory. -/
structure Gr (w : World) (AP AM AN AE : Option Addr) (cP cM cN cE np nm : Nat) (ns : List GN) (es : List (Int × Int)) : Prop where
  parts : ∃ xs, w.ownsRow 0 9 1 (.slice AP np cP) np xs
  msgs : ∃ xs, w.ownsRow 0 9 1 (.slice AM nm cM) nm xs
  nodes : w.ownsRow 0 55 7 (.slice AN ns.length cN) ns.length (flatN ns)
  edges : w.ownsRow 0 53 2 (.slice AE es.length cE) es.length (flatE es)
theorem Gr.below {w w1 : World} {AP AM AN AE : Option Addr} {cP cM cN cE np nm : Nat} {ns : List GN} {es : List (Int × Int)} (h : Gr w AP AM AN AE cP cM cN cE np nm ns es) (hb : Below w.heap.size w w1) : Gr w1 AP AM AN AE cP cM cN cE np nm ns es :=
  ⟨h.parts.imp fun _ h => own_below h hb, h.msgs.imp fun _ h => own_below h hb, own_below h.nodes hb, own_below h.edges hb⟩

theorem index_bd (x : Int) : ∀ (l : List Int) (k : Nat), -1 ≤ indexFrom x l k ∧ indexFrom x l k ≤ k + l.length
  | [], k => by simp [indexFrom] <;> omega
  | y :: l, k => by
    have := index_bd x l (k + 1)
    simp only [indexFrom, List.length_cons]
    split <;> omega
/-- The place of a task that waits. -/
def busyI (ns : List GN) (ne : Nat) (node : Int) : Int :=
  if indexFrom node (placesFrom isTask ns 0) 0 < 0 then -1 else (ne : Int) + 2 * indexFrom node (placesFrom isTask ns 0) 0

set_option maxHeartbeats 1000000 in
theorem busy_any {w : World} {AP AM AN AE : Option Addr} {cP cM cN cE np nm : Nat} {ns : List GN} {es : List (Int × Int)} (h : Gr w AP AM AN AE cP cM cN cE np nm ns es) (hn : ns.length ≤ 1000000) (he : es.length ≤ 1000000) (node : Int) :
    Calls Try.prog 26 #[.agg #[.slice AP np cP, .slice AM nm cM, .slice AN ns.length cN, .slice AE es.length cE], .int .i64 node] w fun e w' => e = .returned (.int .i64 (busyI ns es.length node)) ∧ Below w.heap.size w w' := by
  have H := Lib.hid h
  clear h
  have hlen := placesFrom_len isTask ns 0
  obtain ⟨i, hi⟩ : ∃ i, i = indexFrom node (placesFrom isTask ns 0) 0 := ⟨_, rfl⟩
  have hbd := index_bd node (placesFrom isTask ns 0) 0
  rw [← hi] at hbd
  have hfin : busyI ns es.length node = if i < 0 then -1 else (es.length : Int) + 2 * i := by unfold busyI; rw [← hi]
  have hix : ∀ (w : World) (A : Option Addr) (c base : Nat), w.ownsRow base 3 1 (.slice A (placesFrom isTask ns 0).length c) (placesFrom isTask ns 0).length ((placesFrom isTask ns 0).map (Value.int .i64)) →
      Calls Try.prog 53 #[.slice A (placesFrom isTask ns 0).length c, .int .i64 node] w fun e w' => e = .returned (.int .i64 i) ∧ w = w' := fun w A c base hO => by rw [hi]; exact index_any hO (by omega) node
  have Hix := Lib.hid hix
  have Hfin := Lib.hid hfin
  clear hi hfin hix
  obtain ⟨b0, b1⟩ := hbd
  go_enter Try.func26, Try.ntmps26
  go_wp2_with fail
  refine (tasks_any (H.out.below ((Below.refl _ _).alloc (Nat.le_refl _) _)).nodes hn).mono ?_
  rintro e w1 ⟨A, c, rfl, hO, hB⟩
  have HO := Lib.hid hO
  have HB := Lib.hid hB
  clear hO hB
  have hcell : w1.cell? ⟨w.heap.size, 3, none⟩ = some (.slice AE es.length cE) := (HB.out.cell (p := ⟨w.heap.size, 3, none⟩) (by simp)).trans (by rw [cell_of_row _ w.heap.size 3 _ _ _ (heap_alloc_new w _)]; rfl)
  go_wp2_with fail
  refine (Hix.out _ _ _ _ HO.out).mono ?_
  rintro e w' ⟨rfl, rfl⟩
  have hend : Below w.heap.size w w1 := ((Below.refl _ _).alloc (Nat.le_refl _) _).trans (HB.out.mono (by simp))
  have Hend := Lib.hid hend
  clear hend
  by_cases h0 : i < 0
  · go_wp2_with fail
    go_ret
    exact ⟨by rw [Hfin.out, if_pos h0]; rfl, Hend.out⟩
  · have hb2 : i ≤ 1000000 := by omega
    go_wp2_with fail
    go_ret
    exact ⟨by rw [Hfin.out, if_neg (by omega)]; rfl, Hend.out⟩
end Go.Proofs.Yteoioboiniealaa
