/- The contracts of graph.Tasks, slices.Index, graph.Busy and Done. -/
import Derived.Test.YteoioboiniealaaGraphA
namespace Go.Proofs.Yteoioboiniealaa
open Go.RowKit

/-- Is a node a task? -/
def isTask (x : GN) : Bool := x.kind == 3

set_option maxHeartbeats 1000000 in
theorem tasks_any {w : World} {vP vM vE : Value} {A : Option Addr} {c : Nat} {ns : List GN} (hN : w.ownsRow 0 55 7 (.slice A ns.length c) ns.length (flatN ns)) (hl : ns.length ≤ 1000000) :
    Calls Try.prog 29 #[.agg #[vP, vM, .slice A ns.length c, vE]] w (RetInts w (placesFrom isTask ns 0)) := by
  obtain ⟨i0, hi0, hz0, hz1, hz2⟩ := info_parts Try.infoInt
  have HN := Lib.hid hN
  clear hN
  go_enter Try.func29, Try.ntmps29
  go_wp2_with fail
  go_loopw [3, 9] (fun v iv wr => InPl w isTask ns v iv wr) (fun _ iv _ => ns.length - (intOf iv).toNat)
  case atStart => exact ⟨0, Nat.zero_le _, rfl, World.ownsRow_nil _ _ _ _, (Below.refl _ _).alloc (Nat.le_refl _) _⟩
  case round =>
    obtain ⟨k, hk, rfl, hO, hB⟩ := hrel
    have HO := Lib.hid hO
    have HB := Lib.hid hB
    have hsz := hB.size
    have hpl := places_le isTask ns k
    clear hO hB
    by_cases hlt : k < ns.length
    · obtain ⟨b, rfl, hbl, _, hcell⟩ := own_at HN.out (by omega)
      have hat : ∀ j, j < 7 → wr.cell? ⟨b, k * 7 + j, none⟩ = (cellsN ns[k])[j]? := fun j hj => (HB.out.cell (p := ⟨b, k * 7 + j, none⟩) hbl).trans ((hcell _ (by omega)).trans (flatN_at ns k hlt j hj))
      have x0 : wr.cell? ⟨b, k * 7, none⟩ = some (.int .i64 ns[k].kind) := hat 0 (by omega)
      have x1 : wr.cell? ⟨b, k * 7 + 1, none⟩ = some (.string ns[k].id) := hat 1 (by omega)
      have x2 : wr.cell? ⟨b, k * 7 + 2, none⟩ = some (.int .i64 ns[k].src) := hat 2 (by omega)
      have x3 : wr.cell? ⟨b, k * 7 + 3, none⟩ = some (.int .i64 ns[k].dst) := hat 3 (by omega)
      have x4 : wr.cell? ⟨b, k * 7 + 4, none⟩ = some (.int .i64 ns[k].msg) := hat 4 (by omega)
      have x5 : wr.cell? ⟨b, k * 7 + 5, none⟩ = some (.int .i64 ns[k].reply) := hat 5 (by omega)
      have x6 : wr.cell? ⟨b, k * 7 + 6, none⟩ = some (.bool ns[k].again) := hat 6 (by omega)
      have hst := places_step isTask ns k hlt
      have hpk : isTask ns[k] = (ns[k].kind == 3) := rfl
      clear hat hcell
      generalize ns[k] = x at *
      obtain ⟨q0, q1, q2, q3, q4, q5, q6⟩ := x
      simp only at x0 x1 x2 x3 x4 x5 x6 hpk
      cases ht : (q0 == 3)
      · rw [ht] at hpk
        rw [hpk, if_neg (by simp), List.append_nil] at hst
        have Hst := Lib.hid hst
        clear hst hpk
        go_wp2_with fail
        go_roundw
        case rel => exact ⟨k + 1, by omega, by go_num, by rw [Hst.out]; exact HO.out.alloc _, HB.out.alloc hsz _⟩
        case measure => simp [intOf]; omega
      · rw [ht] at hpk
        rw [hpk, if_pos rfl] at hst
        have Hst := Lib.hid hst
        clear hst hpk
        go_wp2_with (at_builtin; refine wpList_append_lies _ rfl (.tmp 17) (.tmp 19) _ rfl w.heap.size 3 i0 _ 1 8 Try.underlying22 hi0 hz0 hz1 hz2 rfl (by omega) _ _ _ rfl ((HO.out.alloc _).alloc _) ⟨wr.heap.size + 1, 0, none⟩ 1 1 [.int .i64 k] rfl rfl (World.news_of_block (cs := #[.int .i64 k]) (t := 3) (fr := (0, 0)) (by have := heap_alloc_new (wr.alloc (.cells #[.int .i64 q0, .string q1, .int .i64 q2, .int .i64 q3, .int .i64 q4, .int .i64 q5, .bool q6] 55)) (.cells #[.int .i64 k] 3); simpa using this)) (by simp [Value.oneCell']) (by omega) (by unfold maxLen; omega) (by omega) (by simp; omega) (wr.heap.size + 1 + 1) (by simp) ?_)
        intro gO capO w2 hown2 hgrow hat hlt3
        go_wp2_with fail
        go_roundw
        case rel =>
          refine ⟨k + 1, by omega, by go_num, ?_, ?_⟩
          · rw [Hst.out]
            simpa using hown2
          · exact below_own (HB.out.alloc hsz _) (HO.out.alloc _) hgrow (by simp; omega)
        case measure => simp [intOf]; omega
    · have hfin : ns.take k = ns := List.take_of_length_le (by omega)
      have Hfin := Lib.hid hfin
      clear hfin
      go_wp2_with fail
      go_ret
      have hO := HO.out
      rw [Hfin.out] at hO
      obtain ⟨A', c', rfl, _, _⟩ := own_slice hO
      exact ⟨A', c', rfl, hO, HB.out⟩

/-- The first place, from a number on, of a number; -1: it is not there. -/
def indexFrom (x : Int) : List Int → Nat → Int
  | [], _ => -1
  | y :: l, k => if (x == y) = true then (k : Int) else indexFrom x l (k + 1)

theorem index_any {w : World} {A : Option Addr} {c base : Nat} {l : List Int} (hO : w.ownsRow base 3 1 (.slice A l.length c) l.length (l.map (Value.int .i64))) (hl : l.length ≤ 1000000) (x : Int) :
    Calls Try.prog 53 #[.slice A l.length c, .int .i64 x] w fun e w' => e = .returned (.int .i64 (indexFrom x l 0)) ∧ w = w' := by
  have HO := Lib.hid hO
  clear hO
  go_enter Try.func53, Try.ntmps53
  go_wp2_with fail
  go_loop [8] (fun v => ∃ k : Nat, k ≤ l.length ∧ v = .int .i64 k ∧ Hid (indexFrom x l 0 = indexFrom x (l.drop k) k)) (fun v => l.length - (intOf v).toNat)
  case atStart => exact ⟨0, Nat.zero_le _, rfl, rfl⟩
  case round =>
    obtain ⟨k, hk, rfl, hinv⟩ := hrel
    by_cases hlt : k < l.length
    · obtain ⟨b, rfl, hbl, _, hcell⟩ := own_at HO.out (by omega)
      have hx : w.cell? ⟨b, k, none⟩ = some (.int .i64 l[k]) := (hcell k (by omega)).trans (by simp [hlt])
      have hd : l.drop k = l[k] :: l.drop (k + 1) := List.drop_eq_getElem_cons hlt
      have hi := hinv.out
      rw [hd, indexFrom] at hi
      generalize l[k] = y at *
      clear hd hcell hinv
      cases ht : (x == y)
      · rw [ht, if_neg (by simp)] at hi
        have Hi := Lib.hid hi
        clear hi
        go_wp2_with fail
        go_round
        case rel => exact ⟨k + 1, by omega, by go_num, Hi⟩
        case measure => simp [intOf]; omega
      · rw [ht, if_pos rfl] at hi
        have Hi := Lib.hid hi
        clear hi
        go_wp2_with fail
        go_ret
        exact ⟨by rw [Hi.out]; rfl, rfl⟩
    · have hi := hinv.out
      rw [List.drop_eq_nil_of_le (by omega), indexFrom] at hi
      have Hi := Lib.hid hi
      clear hi
      go_wp2_with fail
      go_ret
      exact ⟨by rw [Hi.out]; rfl, rfl⟩
end Go.Proofs.Yteoioboiniealaa
