/- Graphs in memory; the contracts of graph.In, Out and Tasks. -/
import Derived.Test.YteoioboiniealaaKit
namespace Go.Proofs.Yteoioboiniealaa
open Go.RowKit

/-- A node. -/
structure GN where
  kind : Int
  id : ByteArray
  src : Int
  dst : Int
  msg : Int
  reply : Int
  again : Bool
def cellsN (x : GN) : List Value := [.int .i64 x.kind, .string x.id, .int .i64 x.src, .int .i64 x.dst, .int .i64 x.msg, .int .i64 x.reply, .bool x.again]
def flatN : List GN → List Value
  | [] => []
  | x :: l => cellsN x ++ flatN l
def flatE : List (Int × Int) → List Value
  | [] => []
  | (a, b) :: l => .int .i64 a :: .int .i64 b :: flatE l
theorem flatN_append : ∀ (a b : List GN), flatN (a ++ b) = flatN a ++ flatN b
  | [], b => rfl
  | x :: a, b => by simp [flatN, flatN_append a b]
theorem flatE_append : ∀ (a b : List (Int × Int)), flatE (a ++ b) = flatE a ++ flatE b
  | [], b => rfl
  | (x, y) :: a, b => by simp [flatE, flatE_append a b]
theorem flatN_at : ∀ (l : List GN) (k : Nat) (h : k < l.length) (j : Nat), j < 7 → (flatN l)[k * 7 + j]? = (cellsN l[k])[j]?
  | x :: l, 0, _, j, hj => by
    simp only [flatN, Nat.zero_mul, Nat.zero_add, List.getElem_cons_zero]
    rw [List.getElem?_append_left (by simpa [cellsN] using hj)]
  | x :: l, k + 1, h, j, hj => by
    have := flatN_at l k (by simpa using h) j hj
    simp only [flatN, List.getElem_cons_succ]
    rw [List.getElem?_append_right (by simp [cellsN]; omega)]
    rw [← this]
    congr 1
    simp [cellsN]
    omega
theorem flatE_at : ∀ (l : List (Int × Int)) (k : Nat) (h : k < l.length), (flatE l)[k * 2]? = some (.int .i64 l[k].1) ∧ (flatE l)[k * 2 + 1]? = some (.int .i64 l[k].2)
  | (a, b) :: l, 0, _ => ⟨rfl, rfl⟩
  | (a, b) :: l, k + 1, h => by
    have := flatE_at l k (by simpa using h)
    rw [show (k + 1) * 2 = k * 2 + 2 by omega]
    simpa [flatE] using this

/-- The places, from a number on, of what has a property. -/
def placesFrom {α : Type} (p : α → Bool) : List α → Nat → List Int
  | [], _ => []
  | x :: l, k => if p x = true then (k : Int) :: placesFrom p l (k + 1) else placesFrom p l (k + 1)
theorem placesFrom_snoc {α : Type} (p : α → Bool) (x : α) : ∀ (l : List α) (k : Nat), placesFrom p (l ++ [x]) k = placesFrom p l k ++ (if p x = true then [((k + l.length : Nat) : Int)] else [])
  | [], k => by simp [placesFrom]
  | y :: l, k => by
    simp only [List.cons_append, placesFrom, placesFrom_snoc p x l (k + 1), List.length_cons]
    rw [show k + 1 + l.length = k + (l.length + 1) by omega]
    split <;> simp
theorem placesFrom_len {α : Type} (p : α → Bool) : ∀ (l : List α) (k : Nat), (placesFrom p l k).length ≤ l.length
  | [], _ => Nat.le_refl _
  | y :: l, k => by
    simp only [placesFrom]
    have := placesFrom_len p l (k + 1)
    split <;> simp <;> omega
/-- What comes back is a row of new numbers. -/
def RetInts (w : World) (l : List Int) (e : Ending) (w' : World) : Prop :=
  ∃ A c, e = .returned (.slice A l.length c) ∧ w'.ownsRow w.heap.size 3 1 (.slice A l.length c) l.length (l.map (Value.int .i64)) ∧ Below w.heap.size w w'

theorem Try.infoInt : (Try.prog.info? 3).map (fun i => (i.zero, i.size, i.bytes)) = some (some (.int .i64 0), 1, 8) := by kernel_rfl

/-- What holds at each round's head. -/
def InPl {α : Type} (w : World) (p : α → Bool) (xs : List α) (v iv : Value) (wr : World) : Prop :=
  ∃ k : Nat, k ≤ xs.length ∧ iv = .int .i64 k ∧ wr.ownsRow w.heap.size 3 1 v (placesFrom p (xs.take k) 0).length ((placesFrom p (xs.take k) 0).map (Value.int .i64)) ∧ Below w.heap.size w wr
theorem places_step {α : Type} (p : α → Bool) (xs : List α) (k : Nat) (h : k < xs.length) : placesFrom p (xs.take (k + 1)) 0 = placesFrom p (xs.take k) 0 ++ (if p (xs[k]'h) = true then [(k : Int)] else []) := by
  rw [List.take_succ_eq_append_getElem h, placesFrom_snoc]
  congr 1
  split
  · simp; omega
  · rfl
theorem places_le {α : Type} (p : α → Bool) (xs : List α) (k : Nat) : (placesFrom p (xs.take k) 0).length ≤ k := Nat.le_trans (placesFrom_len p _ 0) (List.length_take_le _ _)

set_option maxHeartbeats 1000000 in
theorem in_any {w : World} {vP vM vN : Value} {A : Option Addr} {c : Nat} {es : List (Int × Int)} (hE : w.ownsRow 0 53 2 (.slice A es.length c) es.length (flatE es)) (hl : es.length ≤ 1000000) (node : Int) :
    Calls Try.prog 24 #[.agg #[vP, vM, vN, .slice A es.length c], .int .i64 node] w (RetInts w (placesFrom (fun x : Int × Int => x.2 == node) es 0)) := by
  obtain ⟨i0, hi0, hz0, hz1, hz2⟩ := info_parts Try.infoInt
  have HE := Lib.hid hE
  clear hE
  obtain ⟨p, hp⟩ : ∃ p, p = (fun x : Int × Int => x.2 == node) := ⟨_, rfl⟩
  rw [← hp]
  have HP := Lib.hid hp
  clear hp
  go_enter Try.func24, Try.ntmps24
  go_wp2_with fail
  go_loopw [5, 11] (fun v iv wr => InPl w p es v iv wr) (fun _ iv _ => es.length - (intOf iv).toNat)
  case atStart => exact ⟨0, Nat.zero_le _, rfl, World.ownsRow_nil _ _ _ _, (Below.refl _ _).alloc (Nat.le_refl _) _⟩
  case round =>
    obtain ⟨k, hk, rfl, hO, hB⟩ := hrel
    have HO := Lib.hid hO
    have HB := Lib.hid hB
    have hsz := hB.size
    have hpl := places_le p es k
    clear hO hB
    by_cases hlt : k < es.length
    · obtain ⟨b, rfl, hbl, _, hcell⟩ := own_at HE.out (by omega)
      obtain ⟨f1, f2⟩ := flatE_at es k hlt
      have x1 : wr.cell? ⟨b, k * 2, none⟩ = some (.int .i64 es[k].1) := (HB.out.cell (p := ⟨b, k * 2, none⟩) hbl).trans ((hcell _ (by omega)).trans f1)
      have x2 : wr.cell? ⟨b, k * 2 + 1, none⟩ = some (.int .i64 es[k].2) := (HB.out.cell (p := ⟨b, k * 2 + 1, none⟩) hbl).trans ((hcell _ (by omega)).trans f2)
      have hst := places_step p es k hlt
      have hpk : p es[k] = (let x := es[k]; x.2 == node) := by rw [HP.out]
      obtain ⟨a1, ha1⟩ : ∃ a1, a1 = es[k].1 := ⟨_, rfl⟩
      obtain ⟨a2, ha2⟩ : ∃ a2, a2 = es[k].2 := ⟨_, rfl⟩
      simp only at hpk
      rw [← ha1] at x1
      rw [← ha2] at x2
      rw [← ha2] at hpk
      cases ht : (a2 == node)
      · rw [ht] at hpk
        rw [hpk, if_neg (by simp), List.append_nil] at hst
        have Hst := Lib.hid hst
        clear hst hpk ha1 ha2 hcell f1 f2
        go_wp2_with fail
        go_roundw
        case rel => exact ⟨k + 1, by omega, by go_num, by rw [Hst.out]; exact HO.out.alloc _, HB.out.alloc hsz _⟩
        case measure => simp [intOf]; omega
      · rw [ht] at hpk
        rw [hpk, if_pos rfl] at hst
        have Hst := Lib.hid hst
        clear hst hpk ha1 ha2 hcell f1 f2
        go_wp2_with (at_builtin; refine wpList_append_lies _ rfl (.tmp 20) (.tmp 22) _ rfl w.heap.size 3 i0 _ 1 8 Try.underlying22 hi0 hz0 hz1 hz2 rfl (by omega) _ _ _ rfl ((HO.out.alloc _).alloc _) ⟨wr.heap.size + 1, 0, none⟩ 1 1 [.int .i64 k] rfl rfl (World.news_of_block (cs := #[.int .i64 k]) (t := 3) (fr := (0, 0)) (by have := heap_alloc_new (wr.alloc (.cells #[.int .i64 a1, .int .i64 a2] 53)) (.cells #[.int .i64 k] 3); simpa using this)) (by simp [Value.oneCell']) (by omega) (by unfold maxLen; omega) (by omega) (by simp; omega) (wr.heap.size + 1 + 1) (by simp) ?_)
        intro gO capO w2 hown2 hgrow hat hlt3
        go_wp2_with fail
        go_roundw
        case rel =>
          refine ⟨k + 1, by omega, by go_num, ?_, ?_⟩
          · rw [Hst.out]
            simpa using hown2
          · exact below_own (HB.out.alloc hsz _) (HO.out.alloc _) hgrow (by simp; omega)
        case measure => simp [intOf]; omega
    · have hfin : es.take k = es := List.take_of_length_le (by omega)
      have Hfin := Lib.hid hfin
      clear hfin
      go_wp2_with fail
      go_ret
      have hO := HO.out
      rw [Hfin.out] at hO
      obtain ⟨A', c', rfl, _, _⟩ := own_slice hO
      exact ⟨A', c', rfl, hO, HB.out⟩

set_option maxHeartbeats 1000000 in
theorem out_any {w : World} {vP vM vN : Value} {A : Option Addr} {c : Nat} {es : List (Int × Int)} (hE : w.ownsRow 0 53 2 (.slice A es.length c) es.length (flatE es)) (hl : es.length ≤ 1000000) (node : Int) :
    Calls Try.prog 25 #[.agg #[vP, vM, vN, .slice A es.length c], .int .i64 node] w (RetInts w (placesFrom (fun x : Int × Int => x.1 == node) es 0)) := by
  obtain ⟨i0, hi0, hz0, hz1, hz2⟩ := info_parts Try.infoInt
  have HE := Lib.hid hE
  clear hE
  obtain ⟨p, hp⟩ : ∃ p, p = (fun x : Int × Int => x.1 == node) := ⟨_, rfl⟩
  rw [← hp]
  have HP := Lib.hid hp
  clear hp
  go_enter Try.func25, Try.ntmps25
  go_wp2_with fail
  go_loopw [5, 11] (fun v iv wr => InPl w p es v iv wr) (fun _ iv _ => es.length - (intOf iv).toNat)
  case atStart => exact ⟨0, Nat.zero_le _, rfl, World.ownsRow_nil _ _ _ _, (Below.refl _ _).alloc (Nat.le_refl _) _⟩
  case round =>
    obtain ⟨k, hk, rfl, hO, hB⟩ := hrel
    have HO := Lib.hid hO
    have HB := Lib.hid hB
    have hsz := hB.size
    have hpl := places_le p es k
    clear hO hB
    by_cases hlt : k < es.length
    · obtain ⟨b, rfl, hbl, _, hcell⟩ := own_at HE.out (by omega)
      obtain ⟨f1, f2⟩ := flatE_at es k hlt
      have x1 : wr.cell? ⟨b, k * 2, none⟩ = some (.int .i64 es[k].1) := (HB.out.cell (p := ⟨b, k * 2, none⟩) hbl).trans ((hcell _ (by omega)).trans f1)
      have x2 : wr.cell? ⟨b, k * 2 + 1, none⟩ = some (.int .i64 es[k].2) := (HB.out.cell (p := ⟨b, k * 2 + 1, none⟩) hbl).trans ((hcell _ (by omega)).trans f2)
      have hst := places_step p es k hlt
      have hpk : p es[k] = (let x := es[k]; x.1 == node) := by rw [HP.out]
      obtain ⟨a1, ha1⟩ : ∃ a1, a1 = es[k].1 := ⟨_, rfl⟩
      obtain ⟨a2, ha2⟩ : ∃ a2, a2 = es[k].2 := ⟨_, rfl⟩
      simp only at hpk
      rw [← ha1] at x1
      rw [← ha2] at x2
      rw [← ha1] at hpk
      cases ht : (a1 == node)
      · rw [ht] at hpk
        rw [hpk, if_neg (by simp), List.append_nil] at hst
        have Hst := Lib.hid hst
        clear hst hpk ha1 ha2 hcell f1 f2
        go_wp2_with fail
        go_roundw
        case rel => exact ⟨k + 1, by omega, by go_num, by rw [Hst.out]; exact HO.out.alloc _, HB.out.alloc hsz _⟩
        case measure => simp [intOf]; omega
      · rw [ht] at hpk
        rw [hpk, if_pos rfl] at hst
        have Hst := Lib.hid hst
        clear hst hpk ha1 ha2 hcell f1 f2
        go_wp2_with (at_builtin; refine wpList_append_lies _ rfl (.tmp 20) (.tmp 22) _ rfl w.heap.size 3 i0 _ 1 8 Try.underlying22 hi0 hz0 hz1 hz2 rfl (by omega) _ _ _ rfl ((HO.out.alloc _).alloc _) ⟨wr.heap.size + 1, 0, none⟩ 1 1 [.int .i64 k] rfl rfl (World.news_of_block (cs := #[.int .i64 k]) (t := 3) (fr := (0, 0)) (by have := heap_alloc_new (wr.alloc (.cells #[.int .i64 a1, .int .i64 a2] 53)) (.cells #[.int .i64 k] 3); simpa using this)) (by simp [Value.oneCell']) (by omega) (by unfold maxLen; omega) (by omega) (by simp; omega) (wr.heap.size + 1 + 1) (by simp) ?_)
        intro gO capO w2 hown2 hgrow hat hlt3
        go_wp2_with fail
        go_roundw
        case rel =>
          refine ⟨k + 1, by omega, by go_num, ?_, ?_⟩
          · rw [Hst.out]
            simpa using hown2
          · exact below_own (HB.out.alloc hsz _) (HO.out.alloc _) hgrow (by simp; omega)
        case measure => simp [intOf]; omega
    · have hfin : es.take k = es := List.take_of_length_le (by omega)
      have Hfin := Lib.hid hfin
      clear hfin
      go_wp2_with fail
      go_ret
      have hO := HO.out
      rw [Hfin.out] at hO
      obtain ⟨A', c', rfl, _, _⟩ := own_slice hO
      exact ⟨A', c', rfl, hO, HB.out⟩

end Go.Proofs.Yteoioboiniealaa
