/- The contract of graph.Check. -/
import Derived.Test.YteoioboiniealaaGraphF
import Derived.Test.YteoioboiniealaaGraphH
namespace Go.Proofs.Yteoioboiniealaa
open Go.RowKit

/-- How many edges come into a node, and go out of it. -/
def inN (es : List (Int × Int)) (i : Int) : Nat := (placesFrom (fun x : Int × Int => x.2 == i) es 0).length
def outN (es : List (Int × Int)) (i : Int) : Nat := (placesFrom (fun x : Int × Int => x.1 == i) es 0).length
/-- What is wrong with nodes first; 0: nothing. -/
def chkN (np nm : Nat) (es : List (Int × Int)) : List GN → Nat → Int
  | [], _ => 0
  | x :: l, k => if nodeB np nm x = false then 1 else if ((x.kind == 1 && decide (0 < inN es k)) || ((x.kind == 1 || x.kind == 3) && decide (outN es k ≠ 1))) = true then 9 else chkN np nm es l (k + 1)
def startsN (l : List GN) : Nat := (l.filter isStart).length
def edgeB (n : Nat) (x : Int × Int) : Bool := decide (0 ≤ x.1 ∧ x.1 < n ∧ 0 ≤ x.2 ∧ x.2 < n)
def checkF (np nm : Nat) (ns : List GN) (es : List (Int × Int)) : Int :=
  if 16 < np then 5 else if 64 < es.length + 2 * (placesFrom isTask ns 0).length then 5
  else if chkN np nm es ns 0 ≠ 0 then chkN np nm es ns 0 else if es.all (edgeB ns.length) = false then 1 else if startsN ns ≠ 1 then 9 else 0

theorem startsN_take (ns : List GN) (k : Nat) (h : k < ns.length) : startsN (ns.take (k + 1)) = startsN (ns.take k) + if (ns[k].kind == 1) = true then 1 else 0 := by
  unfold startsN
  rw [List.take_succ_eq_append_getElem h, List.filter_append, List.length_append]
  congr 1
  show (List.filter isStart [ns[k]]).length = _
  rw [List.filter_cons]
  unfold isStart
  split <;> simp
theorem startsN_le (ns : List GN) (k : Nat) : startsN (ns.take k) ≤ k := Nat.le_trans (List.length_filter_le _ _) (List.length_take_le _ _)

theorem in_len {w : World} {vP vM vN : Value} {A : Option Addr} {c : Nat} {es : List (Int × Int)} (hE : w.ownsRow 0 53 2 (.slice A es.length c) es.length (flatE es)) (hl : es.length ≤ 1000000) (node : Int) :
    Calls Try.prog 24 #[.agg #[vP, vM, vN, .slice A es.length c], .int .i64 node] w fun e w' => ∃ A' c', e = .returned (.slice A' (inN es node) c') ∧ Below w.heap.size w w' :=
  (in_any hE hl node).mono fun _ _ ⟨A', c', he, _, hb⟩ => ⟨A', c', he, hb⟩
theorem out_len {w : World} {vP vM vN : Value} {A : Option Addr} {c : Nat} {es : List (Int × Int)} (hE : w.ownsRow 0 53 2 (.slice A es.length c) es.length (flatE es)) (hl : es.length ≤ 1000000) (node : Int) :
    Calls Try.prog 25 #[.agg #[vP, vM, vN, .slice A es.length c], .int .i64 node] w fun e w' => ∃ A' c', e = .returned (.slice A' (outN es node) c') ∧ Below w.heap.size w w' :=
  (out_any hE hl node).mono fun _ _ ⟨A', c', he, _, hb⟩ => ⟨A', c', he, hb⟩

section
variable {w w1 : World} {g B : Nat} {t : TypeId}
theorem cells4 {a b c d : Value} (hb : Below B w w1) (hg : g < B) (h : w.heap[g]? = some (.cells #[a, b, c, d] t (0, 0))) :
    w1.cell? ⟨g, 0, none⟩ = some a ∧ w1.cell? ⟨g, 1, none⟩ = some b ∧ w1.cell? ⟨g, 2, none⟩ = some c ∧ w1.cell? ⟨g, 3, none⟩ = some d := by
  have hc : ∀ j, w1.cell? ⟨g, j, none⟩ = #[a, b, c, d][j]? := fun j => (hb.cell (p := ⟨g, j, none⟩) hg).trans (cell_of_row _ g j _ _ _ h)
  exact ⟨hc 0, hc 1, hc 2, hc 3⟩
theorem cells7 {a b c d e f g' : Value} (hb : Below B w w1) (hg : g < B) (h : w.heap[g]? = some (.cells #[a, b, c, d, e, f, g'] t (0, 0))) :
    w1.cell? ⟨g, 0, none⟩ = some a ∧ w1.cell? ⟨g, 1, none⟩ = some b ∧ w1.cell? ⟨g, 2, none⟩ = some c ∧ w1.cell? ⟨g, 3, none⟩ = some d ∧ w1.cell? ⟨g, 4, none⟩ = some e ∧ w1.cell? ⟨g, 5, none⟩ = some f ∧ w1.cell? ⟨g, 6, none⟩ = some g' := by
  have hc : ∀ j, w1.cell? ⟨g, j, none⟩ = #[a, b, c, d, e, f, g'][j]? := fun j => (hb.cell (p := ⟨g, j, none⟩) hg).trans (cell_of_row _ g j _ _ _ h)
  exact ⟨hc 0, hc 1, hc 2, hc 3, hc 4, hc 5, hc 6⟩
end

set_option maxHeartbeats 4000000 in
set_option maxRecDepth 100000 in
theorem check_any {w : World} {AP AM AN AE : Option Addr} {cP cM cN cE np nm : Nat} {ns : List GN} {es : List (Int × Int)} (h : Gr w AP AM AN AE cP cM cN cE np nm ns es) (hn : ns.length ≤ 1000000) (he : es.length ≤ 1000000) :
    Calls Try.prog 14 #[.agg #[.slice AP np cP, .slice AM nm cM, .slice AN ns.length cN, .slice AE es.length cE]] w fun e w' => e = .returned (.int .i64 (checkF np nm ns es)) ∧ Below w.heap.size w w' := by
  have H := Lib.hid h
  clear h
  have hlen := placesFrom_len isTask ns 0
  obtain ⟨tk, htk⟩ : ∃ tk, tk = (placesFrom isTask ns 0).length := ⟨_, rfl⟩
  have hF : checkF np nm ns es = if 16 < np then 5 else if 64 < es.length + 2 * tk then 5 else if chkN np nm es ns 0 ≠ 0 then chkN np nm es ns 0 else if es.all (edgeB ns.length) = false then 1 else if startsN ns ≠ 1 then 9 else 0 := by rw [htk]; rfl
  have hPl : ∀ W, Below w.heap.size w W → Calls Try.prog 30 #[.agg #[.slice AP np cP, .slice AM nm cM, .slice AN ns.length cN, .slice AE es.length cE]] W fun e w' => e = .returned (.int .i64 ((es.length : Int) + 2 * tk)) ∧ Below W.heap.size W w' := fun W hb => by rw [htk]; exact places_any (H.out.below hb) hn he
  rw [← htk] at hlen
  have HPl := Lib.hid hPl
  have HF := Lib.hid hF
  clear hPl hF htk
  have hg := heap_alloc_new w (.cells #[.slice AP np cP, .slice AM nm cM, .slice AN ns.length cN, .slice AE es.length cE] 44)
  have hWb : Below w.heap.size w (w.alloc (.cells #[.slice AP np cP, .slice AM nm cM, .slice AN ns.length cN, .slice AE es.length cE] 44)) := (Below.refl _ _).alloc (Nat.le_refl _) _
  have hWs : (w.alloc (.cells #[.slice AP np cP, .slice AM nm cM, .slice AN ns.length cN, .slice AE es.length cE] 44)).heap.size = w.heap.size + 1 := by simp
  have HG0 := Lib.hid hg
  have HWB0 := Lib.hid hWb
  have HWS0 := Lib.hid hWs
  clear hg hWb hWs
  by_cases hp16 : 16 < np
  · have hpi : (16 : Int) < np := by omega
    go_enter Try.func14, Try.ntmps14
    go_wp2_with fail
    go_ret
    exact ⟨by rw [HF.out, if_pos hp16]; rfl, HWB0.out⟩
  · have hpi : ¬ (16 : Int) < np := by omega
    go_enter Try.func14, Try.ntmps14
    go_wp2_with fail
    refine (HPl.out _ HWB0.out).mono ?_
    rintro e w1 ⟨rfl, hb1⟩
    have hsz1 : w.heap.size + 1 ≤ w1.heap.size := by have := hb1.size; simpa using this
    obtain ⟨g0, g1, g2, g3⟩ := cells4 hb1 (by simp) HG0.out
    have HGr := Lib.hid (H.out.below (HWB0.out.trans (hb1.mono (by simp))))
    have HB1 := Lib.hid (HWB0.out.trans (hb1.mono (by simp)))
    clear hb1
    by_cases h64 : 64 < es.length + 2 * tk
    · have h64i : (64 : Int) < (es.length : Int) + 2 * tk := by omega
      go_wp2_with fail
      go_ret
      exact ⟨by rw [HF.out, if_neg hp16, if_pos h64]; rfl, HB1.out⟩
    · have h64i : ¬ (64 : Int) < (es.length : Int) + 2 * tk := by omega
      have hF := HF.out
      rw [if_neg hp16, if_neg h64] at hF
      have HF2 := Lib.hid hF
      clear hF HF HPl HG0 HWB0 HWS0
      go_wp2_with fail
      go_loopw [3, 20] (fun sv iv wr => ∃ k : Nat, k ≤ ns.length ∧ iv = .int .i64 k ∧ sv = .int .i64 (startsN (ns.take k) : Nat) ∧ Hid (chkN np nm es ns 0 = chkN np nm es (ns.drop k) k) ∧ Below w1.heap.size w1 wr) (fun _ iv _ => ns.length - (intOf iv).toNat)
      case atStart => exact ⟨0, Nat.zero_le _, rfl, rfl, rfl, Below.refl _ _⟩
      case round =>
        obtain ⟨k, hk, rfl, rfl, hinv, hB⟩ := hrel
        have hsl := startsN_le ns k
        have hsz := hB.size
        have HB := Lib.hid hB
        obtain ⟨y0, y1, y2, y3⟩ : wr.cell? ⟨w.heap.size, 0, none⟩ = some (.slice AP np cP) ∧ wr.cell? ⟨w.heap.size, 1, none⟩ = some (.slice AM nm cM) ∧ wr.cell? ⟨w.heap.size, 2, none⟩ = some (.slice AN ns.length cN) ∧ wr.cell? ⟨w.heap.size, 3, none⟩ = some (.slice AE es.length cE) :=
          ⟨(hB.cell (p := ⟨w.heap.size, 0, none⟩) (by simp; omega)).trans g0, (hB.cell (p := ⟨w.heap.size, 1, none⟩) (by simp; omega)).trans g1, (hB.cell (p := ⟨w.heap.size, 2, none⟩) (by simp; omega)).trans g2, (hB.cell (p := ⟨w.heap.size, 3, none⟩) (by simp; omega)).trans g3⟩
        have hwlt : w.heap.size < wr.heap.size := by omega
        clear hB g0 g1 g2 g3
        by_cases hlt : k < ns.length
        · obtain ⟨b, rfl, hbl, _, hcell⟩ := own_at (own_below HGr.out.nodes HB.out) (by omega)
          have hat : ∀ j, j < 7 → wr.cell? ⟨b, k * 7 + j, none⟩ = (cellsN ns[k])[j]? := fun j hj => ((hcell _ (by omega)).trans (flatN_at ns k hlt j hj))
          have x0 : wr.cell? ⟨b, k * 7, none⟩ = some (.int .i64 ns[k].kind) := hat 0 (by omega)
          have x1 : wr.cell? ⟨b, k * 7 + 1, none⟩ = some (.string ns[k].id) := hat 1 (by omega)
          have x2 : wr.cell? ⟨b, k * 7 + 2, none⟩ = some (.int .i64 ns[k].src) := hat 2 (by omega)
          have x3 : wr.cell? ⟨b, k * 7 + 3, none⟩ = some (.int .i64 ns[k].dst) := hat 3 (by omega)
          have x4 : wr.cell? ⟨b, k * 7 + 4, none⟩ = some (.int .i64 ns[k].msg) := hat 4 (by omega)
          have x5 : wr.cell? ⟨b, k * 7 + 5, none⟩ = some (.int .i64 ns[k].reply) := hat 5 (by omega)
          have x6 : wr.cell? ⟨b, k * 7 + 6, none⟩ = some (.bool ns[k].again) := hat 6 (by omega)
          have hi := hinv.out
          rw [List.drop_eq_getElem_cons hlt, chkN] at hi
          have hs := startsN_take ns k hlt
          have hIn := fun (W1 : World) (hb : Below w1.heap.size w1 W1) => in_len (vP := .slice AP np cP) (vM := .slice AM nm cM) (vN := .slice (some ⟨b, 0, none⟩) ns.length cN) (own_below HGr.out.edges hb) he (k : Int)
          have hOut := fun (W1 : World) (hb : Below w1.heap.size w1 W1) => out_len (vP := .slice AP np cP) (vM := .slice AM nm cM) (vN := .slice (some ⟨b, 0, none⟩) ns.length cN) (own_below HGr.out.edges hb) he (k : Int)
          have hNode := fun W1 : World => node_any (w := W1) (AP := AP) (AM := AM) (AN := some ⟨b, 0, none⟩) (AE := AE) (cP := cP) (cM := cM) (cN := cN) (cE := cE) (np := np) (nm := nm) (nn := ns.length) (ne := es.length) ns[k]
          generalize startsN (ns.take k) = s at *
          generalize inN es (k : Int) = a at *
          generalize outN es (k : Int) = o at *
          clear hat hcell hinv
          generalize ns[k] = x at *
          obtain ⟨q0, q1, q2, q3, q4, q5, q6⟩ := x
          simp only at x0 x1 x2 x3 x4 x5 x6 hi hs hNode
          have HIn := Lib.hid hIn
          have HOut := Lib.hid hOut
          clear hIn hOut
          cases hnb : nodeB np nm ⟨q0, q1, q2, q3, q4, q5, q6⟩
          · rw [hnb] at hi hNode
            rw [if_pos rfl] at hi
            have HI := Lib.hid hi
            have HNode := Lib.hid hNode
            clear hi hNode hnb hs
            go_wp2_with fail
            refine (HNode.out _).mono ?_
            rintro e w2 ⟨rfl, hb2⟩
            go_wp2_with fail
            go_ret
            exact ⟨by rw [HF2.out, HI.out]; rfl, HB1.out.trans ((HB.out.trans (((Below.refl _ _).alloc (Nat.le_refl _) _).trans (hb2.mono (by simp)) |>.mono hsz)).mono (by omega))⟩
          · rw [hnb] at hi hNode
            rw [if_neg (by simp)] at hi
            have HNode := Lib.hid hNode
            clear hNode hnb
            rcases h1 : (q0 == 1) with _ | _
            · rw [h1, if_neg (by simp)] at hs
              rcases h3 : (q0 == 3) with _ | _
              · rw [h1, h3] at hi
                rw [if_neg (by simp)] at hi
                have HI := Lib.hid hi
                clear hi
                have HS := Lib.hid hs
                clear hs
                go_wp2_with fail
                refine (HNode.out _).mono ?_
                rintro e w2 ⟨rfl, hb2⟩
                obtain ⟨z0, z1, z2, z3, z4, z5, z6⟩ := cells7 hb2 (by simp) (heap_alloc_new wr _)
                have HB2 := Lib.hid ((HB.out.alloc hsz (.cells #[.int .i64 q0, .string q1, .int .i64 q2, .int .i64 q3, .int .i64 q4, .int .i64 q5, .bool q6] 55)).trans (hb2.mono (by simp; omega)))
                clear hb2
                go_wp2_with fail
                go_roundw
                case rel => exact ⟨k + 1, by omega, by go_num, by rw [HS.out]; go_num, HI, HB2.out⟩
                case measure => simp [intOf]; omega
              · rw [h1, h3] at hi
                have HS := Lib.hid hs
                clear hs
                rcases ho : ((o : Int) != 1) with _ | _
                · have ho1 : o = 1 := by
                    have : (o : Int) = 1 := by simpa using ho
                    omega
                  rw [if_neg (by simp [ho1])] at hi
                  have HI := Lib.hid hi
                  clear hi ho1
                  go_wp2_with fail
                  refine (HNode.out _).mono ?_
                  rintro e w2 ⟨rfl, hb2⟩
                  obtain ⟨z0, z1, z2, z3, z4, z5, z6⟩ := cells7 hb2 (by simp) (heap_alloc_new wr _)
                  obtain ⟨v0, v1, v2, v3⟩ : w2.cell? ⟨w.heap.size, 0, none⟩ = some (.slice AP np cP) ∧ w2.cell? ⟨w.heap.size, 1, none⟩ = some (.slice AM nm cM) ∧ w2.cell? ⟨w.heap.size, 2, none⟩ = some (.slice (some ⟨b, 0, none⟩) ns.length cN) ∧ w2.cell? ⟨w.heap.size, 3, none⟩ = some (.slice AE es.length cE) :=
                    ⟨(hb2.cell (p := ⟨w.heap.size, 0, none⟩) (by simp; omega)).trans ((World.cell?_alloc_lt wr _ _ (by simpa using hwlt)).trans y0), (hb2.cell (p := ⟨w.heap.size, 1, none⟩) (by simp; omega)).trans ((World.cell?_alloc_lt wr _ _ (by simpa using hwlt)).trans y1), (hb2.cell (p := ⟨w.heap.size, 2, none⟩) (by simp; omega)).trans ((World.cell?_alloc_lt wr _ _ (by simpa using hwlt)).trans y2), (hb2.cell (p := ⟨w.heap.size, 3, none⟩) (by simp; omega)).trans ((World.cell?_alloc_lt wr _ _ (by simpa using hwlt)).trans y3)⟩
                  have HB2 := Lib.hid ((HB.out.alloc hsz (.cells #[.int .i64 q0, .string q1, .int .i64 q2, .int .i64 q3, .int .i64 q4, .int .i64 q5, .bool q6] 55)).trans (hb2.mono (by simp; omega)))
                  have hs2 : wr.heap.size + 1 ≤ w2.heap.size := by have := hb2.size; simpa using this
                  clear hb2
                  go_wp2_with fail
                  refine (HOut.out _ HB2.out).mono ?_
                  rintro e w3 ⟨A3, c3, rfl, hb3⟩
                  have HB3 := Lib.hid (HB2.out.trans (hb3.mono HB2.out.size))
                  clear hb3
                  go_wp2_with fail
                  go_roundw
                  case rel => exact ⟨k + 1, by omega, by go_num, by rw [HS.out]; go_num, HI, HB3.out⟩
                  case measure => simp [intOf]; omega
                · have ho1 : o ≠ 1 := by
                    intro h
                    simp [h] at ho
                  rw [if_pos (by simp [ho1])] at hi
                  have HI := Lib.hid hi
                  clear hi ho1
                  go_wp2_with fail
                  refine (HNode.out _).mono ?_
                  rintro e w2 ⟨rfl, hb2⟩
                  obtain ⟨z0, z1, z2, z3, z4, z5, z6⟩ := cells7 hb2 (by simp) (heap_alloc_new wr _)
                  obtain ⟨v0, v1, v2, v3⟩ : w2.cell? ⟨w.heap.size, 0, none⟩ = some (.slice AP np cP) ∧ w2.cell? ⟨w.heap.size, 1, none⟩ = some (.slice AM nm cM) ∧ w2.cell? ⟨w.heap.size, 2, none⟩ = some (.slice (some ⟨b, 0, none⟩) ns.length cN) ∧ w2.cell? ⟨w.heap.size, 3, none⟩ = some (.slice AE es.length cE) :=
                    ⟨(hb2.cell (p := ⟨w.heap.size, 0, none⟩) (by simp; omega)).trans ((World.cell?_alloc_lt wr _ _ (by simpa using hwlt)).trans y0), (hb2.cell (p := ⟨w.heap.size, 1, none⟩) (by simp; omega)).trans ((World.cell?_alloc_lt wr _ _ (by simpa using hwlt)).trans y1), (hb2.cell (p := ⟨w.heap.size, 2, none⟩) (by simp; omega)).trans ((World.cell?_alloc_lt wr _ _ (by simpa using hwlt)).trans y2), (hb2.cell (p := ⟨w.heap.size, 3, none⟩) (by simp; omega)).trans ((World.cell?_alloc_lt wr _ _ (by simpa using hwlt)).trans y3)⟩
                  have HB2 := Lib.hid ((HB.out.alloc hsz (.cells #[.int .i64 q0, .string q1, .int .i64 q2, .int .i64 q3, .int .i64 q4, .int .i64 q5, .bool q6] 55)).trans (hb2.mono (by simp; omega)))
                  have hs2 : wr.heap.size + 1 ≤ w2.heap.size := by have := hb2.size; simpa using this
                  clear hb2
                  go_wp2_with fail
                  refine (HOut.out _ HB2.out).mono ?_
                  rintro e w3 ⟨A3, c3, rfl, hb3⟩
                  have HB3 := Lib.hid (HB2.out.trans (hb3.mono HB2.out.size))
                  clear hb3
                  go_wp2_with fail
                  go_ret
                  exact ⟨by rw [HF2.out, HI.out]; rfl, HB1.out.trans (HB3.out.mono (by omega))⟩
            · rw [h1, if_pos rfl] at hs
              have h3 : (q0 == 3) = false := by
                have h : q0 = 1 := by simpa using h1
                simp [h]
              rw [h1, h3] at hi
              have HS := Lib.hid hs
              clear hs
              by_cases ha : 0 < a
              · rw [if_pos (by simp [ha])] at hi
                have HI := Lib.hid hi
                clear hi
                go_wp2_with fail
                refine (HNode.out _).mono ?_
                rintro e w2 ⟨rfl, hb2⟩
                obtain ⟨z0, z1, z2, z3, z4, z5, z6⟩ := cells7 hb2 (by simp) (heap_alloc_new wr _)
                obtain ⟨v0, v1, v2, v3⟩ : w2.cell? ⟨w.heap.size, 0, none⟩ = some (.slice AP np cP) ∧ w2.cell? ⟨w.heap.size, 1, none⟩ = some (.slice AM nm cM) ∧ w2.cell? ⟨w.heap.size, 2, none⟩ = some (.slice (some ⟨b, 0, none⟩) ns.length cN) ∧ w2.cell? ⟨w.heap.size, 3, none⟩ = some (.slice AE es.length cE) :=
                  ⟨(hb2.cell (p := ⟨w.heap.size, 0, none⟩) (by simp; omega)).trans ((World.cell?_alloc_lt wr _ _ (by simpa using hwlt)).trans y0), (hb2.cell (p := ⟨w.heap.size, 1, none⟩) (by simp; omega)).trans ((World.cell?_alloc_lt wr _ _ (by simpa using hwlt)).trans y1), (hb2.cell (p := ⟨w.heap.size, 2, none⟩) (by simp; omega)).trans ((World.cell?_alloc_lt wr _ _ (by simpa using hwlt)).trans y2), (hb2.cell (p := ⟨w.heap.size, 3, none⟩) (by simp; omega)).trans ((World.cell?_alloc_lt wr _ _ (by simpa using hwlt)).trans y3)⟩
                have HB2 := Lib.hid ((HB.out.alloc hsz (.cells #[.int .i64 q0, .string q1, .int .i64 q2, .int .i64 q3, .int .i64 q4, .int .i64 q5, .bool q6] 55)).trans (hb2.mono (by simp; omega)))
                have hs2 : wr.heap.size + 1 ≤ w2.heap.size := by have := hb2.size; simpa using this
                clear hb2
                go_wp2_with fail
                refine (HIn.out _ HB2.out).mono ?_
                rintro e w3 ⟨A3, c3, rfl, hb3⟩
                have HB3 := Lib.hid (HB2.out.trans (hb3.mono HB2.out.size))
                clear hb3
                go_wp2_with fail
                go_ret
                exact ⟨by rw [HF2.out, HI.out]; rfl, HB1.out.trans (HB3.out.mono (by omega))⟩
              · have ha0 : a = 0 := by omega
                have HA0 := Lib.hid ha0
                clear ha0
                rcases ho : ((o : Int) != 1) with _ | _
                · have ho1 : o = 1 := by
                    have : (o : Int) = 1 := by simpa using ho
                    omega
                  rw [if_neg (by simp [ho1, HA0.out])] at hi
                  have HI := Lib.hid hi
                  clear hi ho1
                  go_wp2_with fail
                  refine (HNode.out _).mono ?_
                  rintro e w2 ⟨rfl, hb2⟩
                  obtain ⟨z0, z1, z2, z3, z4, z5, z6⟩ := cells7 hb2 (by simp) (heap_alloc_new wr _)
                  obtain ⟨v0, v1, v2, v3⟩ : w2.cell? ⟨w.heap.size, 0, none⟩ = some (.slice AP np cP) ∧ w2.cell? ⟨w.heap.size, 1, none⟩ = some (.slice AM nm cM) ∧ w2.cell? ⟨w.heap.size, 2, none⟩ = some (.slice (some ⟨b, 0, none⟩) ns.length cN) ∧ w2.cell? ⟨w.heap.size, 3, none⟩ = some (.slice AE es.length cE) :=
                    ⟨(hb2.cell (p := ⟨w.heap.size, 0, none⟩) (by simp; omega)).trans ((World.cell?_alloc_lt wr _ _ (by simpa using hwlt)).trans y0), (hb2.cell (p := ⟨w.heap.size, 1, none⟩) (by simp; omega)).trans ((World.cell?_alloc_lt wr _ _ (by simpa using hwlt)).trans y1), (hb2.cell (p := ⟨w.heap.size, 2, none⟩) (by simp; omega)).trans ((World.cell?_alloc_lt wr _ _ (by simpa using hwlt)).trans y2), (hb2.cell (p := ⟨w.heap.size, 3, none⟩) (by simp; omega)).trans ((World.cell?_alloc_lt wr _ _ (by simpa using hwlt)).trans y3)⟩
                  have HB2 := Lib.hid ((HB.out.alloc hsz (.cells #[.int .i64 q0, .string q1, .int .i64 q2, .int .i64 q3, .int .i64 q4, .int .i64 q5, .bool q6] 55)).trans (hb2.mono (by simp; omega)))
                  have hs2 : wr.heap.size + 1 ≤ w2.heap.size := by have := hb2.size; simpa using this
                  clear hb2
                  go_wp2_with fail
                  refine (HIn.out _ HB2.out).mono ?_
                  rintro e w3 ⟨A3, c3, rfl, hb3⟩
                  obtain ⟨z0, z1, z2, z3, z4, z5, z6⟩ : w3.cell? ⟨wr.heap.size, 0, none⟩ = some (.int .i64 q0) ∧ w3.cell? ⟨wr.heap.size, 1, none⟩ = some (.string q1) ∧ w3.cell? ⟨wr.heap.size, 2, none⟩ = some (.int .i64 q2) ∧ w3.cell? ⟨wr.heap.size, 3, none⟩ = some (.int .i64 q3) ∧ w3.cell? ⟨wr.heap.size, 4, none⟩ = some (.int .i64 q4) ∧ w3.cell? ⟨wr.heap.size, 5, none⟩ = some (.int .i64 q5) ∧ w3.cell? ⟨wr.heap.size, 6, none⟩ = some (.bool q6) :=
                    ⟨(hb3.cell (p := ⟨wr.heap.size, 0, none⟩) (by simp; omega)).trans z0, (hb3.cell (p := ⟨wr.heap.size, 1, none⟩) (by simp; omega)).trans z1, (hb3.cell (p := ⟨wr.heap.size, 2, none⟩) (by simp; omega)).trans z2, (hb3.cell (p := ⟨wr.heap.size, 3, none⟩) (by simp; omega)).trans z3, (hb3.cell (p := ⟨wr.heap.size, 4, none⟩) (by simp; omega)).trans z4, (hb3.cell (p := ⟨wr.heap.size, 5, none⟩) (by simp; omega)).trans z5, (hb3.cell (p := ⟨wr.heap.size, 6, none⟩) (by simp; omega)).trans z6⟩
                  obtain ⟨v0, v1, v2, v3⟩ : w3.cell? ⟨w.heap.size, 0, none⟩ = some (.slice AP np cP) ∧ w3.cell? ⟨w.heap.size, 1, none⟩ = some (.slice AM nm cM) ∧ w3.cell? ⟨w.heap.size, 2, none⟩ = some (.slice (some ⟨b, 0, none⟩) ns.length cN) ∧ w3.cell? ⟨w.heap.size, 3, none⟩ = some (.slice AE es.length cE) :=
                    ⟨(hb3.cell (p := ⟨w.heap.size, 0, none⟩) (by simp; omega)).trans v0, (hb3.cell (p := ⟨w.heap.size, 1, none⟩) (by simp; omega)).trans v1, (hb3.cell (p := ⟨w.heap.size, 2, none⟩) (by simp; omega)).trans v2, (hb3.cell (p := ⟨w.heap.size, 3, none⟩) (by simp; omega)).trans v3⟩
                  have HB3 := Lib.hid (HB2.out.trans (hb3.mono HB2.out.size))
                  clear hb3
                  go_wp2_with fail
                  refine (HOut.out _ HB3.out).mono ?_
                  rintro e w4 ⟨A4, c4, rfl, hb3⟩
                  have HB4 := Lib.hid (HB3.out.trans (hb3.mono HB3.out.size))
                  clear hb3
                  go_wp2_with fail
                  go_roundw
                  case rel => exact ⟨k + 1, by omega, by go_num, by rw [HS.out]; go_num, HI, HB4.out⟩
                  case measure => simp [intOf]; omega
                · have ho1 : o ≠ 1 := by
                    intro h
                    simp [h] at ho
                  rw [if_pos (by simp [ho1])] at hi
                  have HI := Lib.hid hi
                  clear hi ho1
                  go_wp2_with fail
                  refine (HNode.out _).mono ?_
                  rintro e w2 ⟨rfl, hb2⟩
                  obtain ⟨z0, z1, z2, z3, z4, z5, z6⟩ := cells7 hb2 (by simp) (heap_alloc_new wr _)
                  obtain ⟨v0, v1, v2, v3⟩ : w2.cell? ⟨w.heap.size, 0, none⟩ = some (.slice AP np cP) ∧ w2.cell? ⟨w.heap.size, 1, none⟩ = some (.slice AM nm cM) ∧ w2.cell? ⟨w.heap.size, 2, none⟩ = some (.slice (some ⟨b, 0, none⟩) ns.length cN) ∧ w2.cell? ⟨w.heap.size, 3, none⟩ = some (.slice AE es.length cE) :=
                    ⟨(hb2.cell (p := ⟨w.heap.size, 0, none⟩) (by simp; omega)).trans ((World.cell?_alloc_lt wr _ _ (by simpa using hwlt)).trans y0), (hb2.cell (p := ⟨w.heap.size, 1, none⟩) (by simp; omega)).trans ((World.cell?_alloc_lt wr _ _ (by simpa using hwlt)).trans y1), (hb2.cell (p := ⟨w.heap.size, 2, none⟩) (by simp; omega)).trans ((World.cell?_alloc_lt wr _ _ (by simpa using hwlt)).trans y2), (hb2.cell (p := ⟨w.heap.size, 3, none⟩) (by simp; omega)).trans ((World.cell?_alloc_lt wr _ _ (by simpa using hwlt)).trans y3)⟩
                  have HB2 := Lib.hid ((HB.out.alloc hsz (.cells #[.int .i64 q0, .string q1, .int .i64 q2, .int .i64 q3, .int .i64 q4, .int .i64 q5, .bool q6] 55)).trans (hb2.mono (by simp; omega)))
                  have hs2 : wr.heap.size + 1 ≤ w2.heap.size := by have := hb2.size; simpa using this
                  clear hb2
                  go_wp2_with fail
                  refine (HIn.out _ HB2.out).mono ?_
                  rintro e w3 ⟨A3, c3, rfl, hb3⟩
                  obtain ⟨z0, z1, z2, z3, z4, z5, z6⟩ : w3.cell? ⟨wr.heap.size, 0, none⟩ = some (.int .i64 q0) ∧ w3.cell? ⟨wr.heap.size, 1, none⟩ = some (.string q1) ∧ w3.cell? ⟨wr.heap.size, 2, none⟩ = some (.int .i64 q2) ∧ w3.cell? ⟨wr.heap.size, 3, none⟩ = some (.int .i64 q3) ∧ w3.cell? ⟨wr.heap.size, 4, none⟩ = some (.int .i64 q4) ∧ w3.cell? ⟨wr.heap.size, 5, none⟩ = some (.int .i64 q5) ∧ w3.cell? ⟨wr.heap.size, 6, none⟩ = some (.bool q6) :=
                    ⟨(hb3.cell (p := ⟨wr.heap.size, 0, none⟩) (by simp; omega)).trans z0, (hb3.cell (p := ⟨wr.heap.size, 1, none⟩) (by simp; omega)).trans z1, (hb3.cell (p := ⟨wr.heap.size, 2, none⟩) (by simp; omega)).trans z2, (hb3.cell (p := ⟨wr.heap.size, 3, none⟩) (by simp; omega)).trans z3, (hb3.cell (p := ⟨wr.heap.size, 4, none⟩) (by simp; omega)).trans z4, (hb3.cell (p := ⟨wr.heap.size, 5, none⟩) (by simp; omega)).trans z5, (hb3.cell (p := ⟨wr.heap.size, 6, none⟩) (by simp; omega)).trans z6⟩
                  obtain ⟨v0, v1, v2, v3⟩ : w3.cell? ⟨w.heap.size, 0, none⟩ = some (.slice AP np cP) ∧ w3.cell? ⟨w.heap.size, 1, none⟩ = some (.slice AM nm cM) ∧ w3.cell? ⟨w.heap.size, 2, none⟩ = some (.slice (some ⟨b, 0, none⟩) ns.length cN) ∧ w3.cell? ⟨w.heap.size, 3, none⟩ = some (.slice AE es.length cE) :=
                    ⟨(hb3.cell (p := ⟨w.heap.size, 0, none⟩) (by simp; omega)).trans v0, (hb3.cell (p := ⟨w.heap.size, 1, none⟩) (by simp; omega)).trans v1, (hb3.cell (p := ⟨w.heap.size, 2, none⟩) (by simp; omega)).trans v2, (hb3.cell (p := ⟨w.heap.size, 3, none⟩) (by simp; omega)).trans v3⟩
                  have HB3 := Lib.hid (HB2.out.trans (hb3.mono HB2.out.size))
                  clear hb3
                  go_wp2_with fail
                  refine (HOut.out _ HB3.out).mono ?_
                  rintro e w4 ⟨A4, c4, rfl, hb3⟩
                  have HB4 := Lib.hid (HB3.out.trans (hb3.mono HB3.out.size))
                  clear hb3
                  go_wp2_with fail
                  go_ret
                  exact ⟨by rw [HF2.out, HI.out]; rfl, HB1.out.trans (HB4.out.mono (by omega))⟩
        · have hi := hinv.out
          rw [List.drop_eq_nil_of_le (by omega), chkN] at hi
          have hs : startsN (ns.take k) = startsN ns := by rw [List.take_of_length_le (by omega)]
          have hF := HF2.out
          rw [if_neg (by rw [hi]; simp)] at hF
          rw [hs] at hsl ⊢
          generalize startsN ns = s at *
          have HF3 := Lib.hid hF
          clear hF hi hinv hs HF2
          obtain ⟨wo, rfl⟩ : ∃ wo : World, wo = wr := ⟨_, rfl⟩
          go_wp2_with fail
          go_loopw [65] (fun iv we => ∃ j : Nat, j ≤ es.length ∧ iv = .int .i64 j ∧ Hid (es.all (edgeB ns.length) = (es.drop j).all (edgeB ns.length)) ∧ Below wo.heap.size wo we) (fun iv _ => es.length - (intOf iv).toNat)
          case atStart => exact ⟨0, Nat.zero_le _, rfl, rfl, Below.refl _ _⟩
          case round =>
            obtain ⟨j, hj, rfl, hinv, hB2⟩ := hrel
            have hsz2 := hB2.size
            have hwl2 : w.heap.size < wr.heap.size := by omega
            have gy2 : wr.cell? ⟨w.heap.size, 2, none⟩ = some (.slice AN ns.length cN) := (hB2.cell (p := ⟨w.heap.size, 2, none⟩) (by simp; omega)).trans y2
            have HB2 := Lib.hid hB2
            clear hB2
            by_cases hjl : j < es.length
            · obtain ⟨b, rfl, hbl, _, hcell⟩ := own_at (own_below (own_below HGr.out.edges HB.out) HB2.out) (by omega)
              obtain ⟨f1, f2⟩ := flatE_at es j hjl
              have x1 := (hcell _ (by omega)).trans f1
              have x2 := (hcell _ (by omega)).trans f2
              have hi := hinv.out
              rw [List.drop_eq_getElem_cons hjl, List.all_cons] at hi
              have hed : edgeB ns.length es[j] = decide (0 ≤ es[j].1 ∧ es[j].1 < ns.length ∧ 0 ≤ es[j].2 ∧ es[j].2 < ns.length) := rfl
              obtain ⟨e1, he1⟩ : ∃ e1, e1 = es[j].1 := ⟨_, rfl⟩
              obtain ⟨e2, he2⟩ : ∃ e2, e2 = es[j].2 := ⟨_, rfl⟩
              rw [← he1, ← he2] at hed
              rw [← he1] at x1
              rw [← he2] at x2
              clear f1 f2 hcell hinv he1 he2
              generalize edgeB ns.length es[j] = eb at *
              by_cases c1 : e1 < 0
              · have hbad : eb = false := by rw [hed]; simp; omega
                rw [hbad] at hi
                have HI := Lib.hid hi
                clear hi hbad hed
                go_wp2_with fail
                go_ret
                exact ⟨by rw [HF3.out, if_pos (by rw [HI.out]; rfl)]; rfl, HB1.out.trans ((HB.out.trans ((HB2.out.alloc hsz2 _).mono hsz)).mono (by omega))⟩
              · by_cases c2 : (ns.length : Int) ≤ e1
                · have hbad : eb = false := by rw [hed]; simp; omega
                  rw [hbad] at hi
                  have HI := Lib.hid hi
                  clear hi hbad hed
                  go_wp2_with fail
                  go_ret
                  exact ⟨by rw [HF3.out, if_pos (by rw [HI.out]; rfl)]; rfl, HB1.out.trans ((HB.out.trans ((HB2.out.alloc hsz2 _).mono hsz)).mono (by omega))⟩
                · by_cases c3 : e2 < 0
                  · have hbad : eb = false := by rw [hed]; simp; omega
                    rw [hbad] at hi
                    have HI := Lib.hid hi
                    clear hi hbad hed
                    go_wp2_with fail
                    go_ret
                    exact ⟨by rw [HF3.out, if_pos (by rw [HI.out]; rfl)]; rfl, HB1.out.trans ((HB.out.trans ((HB2.out.alloc hsz2 _).mono hsz)).mono (by omega))⟩
                  · by_cases c4 : (ns.length : Int) ≤ e2
                    · have hbad : eb = false := by rw [hed]; simp; omega
                      rw [hbad] at hi
                      have HI := Lib.hid hi
                      clear hi hbad hed
                      go_wp2_with fail
                      go_ret
                      exact ⟨by rw [HF3.out, if_pos (by rw [HI.out]; rfl)]; rfl, HB1.out.trans ((HB.out.trans ((HB2.out.alloc hsz2 _).mono hsz)).mono (by omega))⟩
                    · have hgood : eb = true := by rw [hed]; simp; omega
                      rw [hgood, Bool.true_and] at hi
                      have HI := Lib.hid hi
                      clear hi hgood hed
                      go_wp2_with fail
                      go_roundw
                      case rel => exact ⟨j + 1, by omega, by go_num, HI, HB2.out.alloc hsz2 _⟩
                      case measure => simp [intOf]; omega
            · have hi := hinv.out
              rw [List.drop_eq_nil_of_le (by omega), List.all_nil] at hi
              have hF := HF3.out
              rw [if_neg (by rw [hi]; simp)] at hF
              have HF4 := Lib.hid hF
              clear hF hi hinv HF3
              rcases h1 : ((s : Int) != 1) with _ | _
              · go_wp2_with fail
                go_ret
                exact ⟨by rw [HF4.out, if_neg (by simp at h1; omega)]; rfl, HB1.out.trans ((HB.out.trans (HB2.out.mono hsz)).mono (by omega))⟩
              · go_wp2_with fail
                go_ret
                exact ⟨by rw [HF4.out, if_pos (by simp at h1; omega)]; rfl, HB1.out.trans ((HB.out.trans (HB2.out.mono hsz)).mono (by omega))⟩
end Go.Proofs.Yteoioboiniealaa
