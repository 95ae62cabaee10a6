/- The contract of graph.Used: the part of the places. -/
import Derived.Test.YteoioboiniealaaGraphG
namespace Go.Proofs.Yteoioboiniealaa
open Go.RowKit

set_option maxHeartbeats 1000000 in
theorem findUsed_any {w : World} {a : Nat} (p : Int) (ha : w.cell? ⟨a, 0, none⟩ = some (.int .i64 p)) (hal : a < w.heap.size) {A : Option Addr} {c : Nat} {ns : List GN} (hN : w.ownsRow 0 55 7 (.slice A ns.length c) ns.length (flatN ns)) (hl : ns.length ≤ 1000000) :
    Calls Try.prog 56 #[.slice A ns.length c, .func (.func 55) #[] #[.pointer (some ⟨a, 0, none⟩)]] w fun e w' => e = .returned (.int .i64 (findFrom (hasP p) ns 0)) ∧ Below w.heap.size w w' := by
  have HN := Lib.hid hN
  have HA := Lib.hid ha
  clear ha
  obtain ⟨pf, hpf⟩ : ∃ pf, pf = hasP p := ⟨_, rfl⟩
  rw [← hpf]
  have HP := Lib.hid hpf
  clear hpf
  clear hN
  go_enter Try.func56, Try.ntmps56
  go_wp2_with fail
  go_loopw [8] (fun v wr => ∃ k : Nat, k ≤ ns.length ∧ v = .int .i64 k ∧ Hid (findFrom pf ns 0 = findFrom pf (ns.drop k) k) ∧ Below w.heap.size w wr) (fun v _ => ns.length - (intOf v).toNat)
  case atStart => exact ⟨0, Nat.zero_le _, rfl, rfl, Below.refl _ _⟩
  case round =>
    obtain ⟨k, hk, rfl, hinv, hB⟩ := hrel
    have HB := Lib.hid hB
    have hsz := hB.size
    clear hB
    by_cases hlt : k < ns.length
    · obtain ⟨b, rfl, hbl, _, hcell⟩ := own_at HN.out (by omega)
      have hat : ∀ j, j < 7 → wr.cell? ⟨b, k * 7 + j, none⟩ = (cellsN ns[k])[j]? := fun j hj => (HB.out.cell (p := ⟨b, k * 7 + j, none⟩) hbl).trans ((hcell _ (by omega)).trans (flatN_at ns k hlt j hj))
      have x0 : wr.cell? ⟨b, k * 7, none⟩ = some (.int .i64 ns[k].kind) := hat 0 (by omega)
      have x1 : wr.cell? ⟨b, k * 7 + 1, none⟩ = some (.string ns[k].id) := hat 1 (by omega)
      have x2 : wr.cell? ⟨b, k * 7 + 2, none⟩ = some (.int .i64 ns[k].src) := hat 2 (by omega)
      have x3 : wr.cell? ⟨b, k * 7 + 3, none⟩ = some (.int .i64 ns[k].dst) := hat 3 (by omega)
      have x4 : wr.cell? ⟨b, k * 7 + 4, none⟩ = some (.int .i64 ns[k].msg) := hat 4 (by omega)
      have x5 : wr.cell? ⟨b, k * 7 + 5, none⟩ = some (.int .i64 ns[k].reply) := hat 5 (by omega)
      have x6 : wr.cell? ⟨b, k * 7 + 6, none⟩ = some (.bool ns[k].again) := hat 6 (by omega)
      have hd : ns.drop k = ns[k] :: ns.drop (k + 1) := List.drop_eq_getElem_cons hlt
      have hi := hinv.out
      rw [hd, findFrom] at hi
      have hsp := used1_any ns[k] p ((HB.out.cell (p := ⟨a, 0, none⟩) hal).trans HA.out) (Nat.lt_of_lt_of_le hal hsz)
      rw [← HP.out] at hsp
      clear hat hcell hd hinv
      generalize ns[k] = x at *
      cases ht : pf x
      · rw [ht] at hsp
        rw [ht, if_neg (by simp)] at hi
        have Hi := Lib.hid hi
        have Hsp := Lib.hid hsp
        clear hi hsp ht
        go_wp2_with fail
        refine Hsp.out.mono ?_
        rintro e w1 ⟨rfl, hb1⟩
        go_wp2_with fail
        go_roundw
        case rel => exact ⟨k + 1, by omega, by go_num, Hi, HB.out.trans (hb1.mono hsz)⟩
        case measure => simp [intOf]; omega
      · rw [ht] at hsp
        rw [ht, if_pos rfl] at hi
        have Hi := Lib.hid hi
        have Hsp := Lib.hid hsp
        clear hi hsp ht
        go_wp2_with fail
        refine Hsp.out.mono ?_
        rintro e w1 ⟨rfl, hb1⟩
        go_wp2_with fail
        go_ret
        exact ⟨by rw [Hi.out]; rfl, HB.out.trans (hb1.mono hsz)⟩
    · have hi := hinv.out
      rw [List.drop_eq_nil_of_le (by omega), findFrom] at hi
      have Hi := Lib.hid hi
      clear hi
      go_wp2_with fail
      go_ret
      exact ⟨by rw [Hi.out]; rfl, HB.out⟩


theorem find_ge {α : Type} (p : α → Bool) : ∀ (l : List α) (k : Nat), (0 ≤ findFrom p l k) = (l.any p = true)
  | [], k => by simp [findFrom]
  | x :: l, k => by
    rw [findFrom]
    split
    · rename_i h; simp [h]
    · rename_i h; rw [find_ge p l (k + 1)]; simp [h]
theorem find_lo {α : Type} (p : α → Bool) : ∀ (l : List α) (k : Nat), -1 ≤ findFrom p l k
  | [], k => by simp [findFrom]
  | x :: l, k => by
    rw [findFrom]
    split
    · omega
    · exact find_lo p l (k + 1)
theorem contUsed_any {w : World} {a : Nat} (p : Int) (ha : w.cell? ⟨a, 0, none⟩ = some (.int .i64 p)) (hal : a < w.heap.size) {A : Option Addr} {c : Nat} {ns : List GN} (hN : w.ownsRow 0 55 7 (.slice A ns.length c) ns.length (flatN ns)) (hl : ns.length ≤ 1000000) :
    Calls Try.prog 54 #[.slice A ns.length c, .func (.func 55) #[] #[.pointer (some ⟨a, 0, none⟩)]] w fun e w' => e = .returned (.bool (ns.any (hasP p))) ∧ Below w.heap.size w w' := by
  have hc := findUsed_any p ha hal hN hl
  have hge := find_ge (hasP p) ns 0
  generalize findFrom (hasP p) ns 0 = i at *
  have HC := Lib.hid hc
  have HG := Lib.hid hge
  clear ha hN hc hge
  go_enter Try.func54, Try.ntmps54
  go_wp2_with fail
  refine HC.out.mono ?_
  rintro e w1 ⟨rfl, hb1⟩
  go_wp2_with fail
  go_ret
  refine ⟨ret_bool ?_, hb1⟩
  have h := HG.out
  rw [Bool.eq_iff_iff]
  simpa using h

/-- The numbers 0, 1, ... -/
def upto (n : Nat) : List Int := (List.range n).map Int.ofNat
theorem upto_len (n : Nat) : (upto n).length = n := by simp [upto]
theorem upto_at (n k : Nat) (h : k < (upto n).length) : (upto n)[k] = (k : Int) := by simp [upto]
/-- Has one of the nodes a participant? -/
@[irreducible] def usedB (ns : List GN) (p : Int) : Bool := ns.any (hasP p)

set_option maxHeartbeats 1000000 in
theorem used_any {w : World} {AP AM AN AE : Option Addr} {cP cM cN cE np nm : Nat} {ns : List GN} {es : List (Int × Int)} (h : Gr w AP AM AN AE cP cM cN cE np nm ns es) (hn : ns.length ≤ 1000000) (hp : np ≤ 1000000) :
    Calls Try.prog 28 #[.agg #[.slice AP np cP, .slice AM nm cM, .slice AN ns.length cN, .slice AE es.length cE]] w (RetInts w (placesFrom (usedB ns) (upto np) 0)) := by
  obtain ⟨i0, hi0, hz0, hz1, hz2⟩ := info_parts Try.infoInt
  have H := Lib.hid h
  clear h
  have hul := upto_len np
  have HUL := Lib.hid hul
  clear hul
  obtain ⟨ub, hub⟩ : ∃ ub, ub = usedB ns := ⟨_, rfl⟩
  rw [← hub]
  have HB0 := Lib.hid hub
  clear hub
  go_enter Try.func28, Try.ntmps28
  go_wp2_with fail
  have hg : (w.alloc (.cells #[.slice AP np cP, .slice AM nm cM, .slice AN ns.length cN, .slice AE es.length cE] 44)).heap[w.heap.size]? = some (.cells #[.slice AP np cP, .slice AM nm cM, .slice AN ns.length cN, .slice AE es.length cE] 44 (0, 0)) := heap_alloc_new w _
  obtain ⟨W, hW⟩ : ∃ W, W = w.alloc (.cells #[.slice AP np cP, .slice AM nm cM, .slice AN ns.length cN, .slice AE es.length cE] 44) := ⟨_, rfl⟩
  have hWb : Below w.heap.size w W := by rw [hW]; exact (Below.refl _ _).alloc (Nat.le_refl _) _
  have hWs : W.heap.size = w.heap.size + 1 := by rw [hW]; simp
  have hGr := H.out.below hWb
  rw [← hW] at hg
  rw [← hW]
  have HWB := Lib.hid hWb
  have HWS := Lib.hid hWs
  have HGr := Lib.hid hGr
  have HG := Lib.hid hg
  clear hW hWb hWs hGr hg
  go_loopw [3, 8] (fun v iv wr => InPl W ub (upto np) v iv wr) (fun _ iv _ => np - (intOf iv).toNat)
  case atStart => exact ⟨0, Nat.zero_le _, rfl, World.ownsRow_nil _ _ _ _, Below.refl _ _⟩
  case round =>
    obtain ⟨k, hk, rfl, hO, hB⟩ := hrel
    have HO := Lib.hid hO
    have HB := Lib.hid hB
    have hsz := hB.size
    have hpl := places_le ub (upto np) k
    have hkn : k ≤ np := by have := HUL.out; omega
    clear hO hB hk
    have hws := HWS.out
    have x0 : wr.cell? ⟨w.heap.size, 0, none⟩ = some (.slice AP np cP) := (HB.out.cell (p := ⟨w.heap.size, 0, none⟩) (by simp; omega)).trans (by rw [cell_of_row _ w.heap.size 0 _ _ _ HG.out]; rfl)
    have x2 : wr.cell? ⟨w.heap.size, 2, none⟩ = some (.slice AN ns.length cN) := (HB.out.cell (p := ⟨w.heap.size, 2, none⟩) (by simp; omega)).trans (by rw [cell_of_row _ w.heap.size 2 _ _ _ HG.out]; rfl)
    have hwlt : w.heap.size < wr.heap.size := by omega
    clear hws
    by_cases hlt : k < np
    · have hst := places_step ub (upto np) k (by have := HUL.out; omega)
      rw [upto_at np k (by have := HUL.out; omega)] at hst
      have hub := congrFun HB0.out (k : Int)
      unfold usedB at hub
      have hcon : ∀ W1 : World, Below wr.heap.size wr W1 → W1.cell? ⟨wr.heap.size, 0, none⟩ = some (.int .i64 k) → wr.heap.size < W1.heap.size → Calls Try.prog 54 #[.slice AN ns.length cN, .func (.func 55) #[] #[.pointer (some ⟨wr.heap.size, 0, none⟩)]] W1 fun e w' => e = .returned (.bool (ub k)) ∧ Below W1.heap.size W1 w' := fun W1 hb1 hc1 hs1 => by
        rw [hub]
        exact contUsed_any _ hc1 hs1 (own_below (own_below HGr.out.nodes HB.out) (hb1.mono (by have := HB.out.size; omega))) hn
      have HCon := Lib.hid hcon
      clear hub hcon
      cases ht : ub (k : Int)
      · rw [ht, if_neg (by simp), List.append_nil] at hst
        rw [ht] at HCon
        have Hst := Lib.hid hst
        clear hst ht
        go_wp2_with fail
        refine (HCon.out _ ((Below.refl _ _).alloc (Nat.le_refl _) _) (by rw [cell_of_row _ wr.heap.size 0 _ _ _ (heap_alloc_new wr _)]; rfl) (by simp)).mono ?_
        rintro e w1 ⟨rfl, hb1⟩
        have hbw : Below W.heap.size W w1 := (HB.out.alloc hsz _).trans (hb1.mono (by simp; omega))
        have hOw := own_below (HO.out.alloc (.cells #[.int .i64 k] 3)) hb1
        have HBW := Lib.hid hbw
        have HOW := Lib.hid hOw
        clear hbw hOw hb1
        go_wp2_with fail
        go_roundw
        case rel => exact ⟨k + 1, by have := HUL.out; omega, by go_num, by rw [Hst.out]; exact HOW.out, HBW.out⟩
        case measure => simp [intOf]; omega
      · rw [ht, if_pos rfl] at hst
        rw [ht] at HCon
        have Hst := Lib.hid hst
        clear hst ht
        go_wp2_with fail
        refine (HCon.out _ ((Below.refl _ _).alloc (Nat.le_refl _) _) (by rw [cell_of_row _ wr.heap.size 0 _ _ _ (heap_alloc_new wr _)]; rfl) (by simp)).mono ?_
        rintro e w1 ⟨rfl, hb1⟩
        have hbw : Below W.heap.size W w1 := (HB.out.alloc hsz _).trans (hb1.mono (by simp; omega))
        have hOw := own_below (HO.out.alloc (.cells #[.int .i64 k] 3)) hb1
        have HBW := Lib.hid hbw
        have HOW := Lib.hid hOw
        have hc1 : w1.cell? ⟨wr.heap.size, 0, none⟩ = some (.int .i64 k) := (hb1.cell (p := ⟨wr.heap.size, 0, none⟩) (by simp)).trans (by rw [cell_of_row _ wr.heap.size 0 _ _ _ (heap_alloc_new wr _)]; rfl)
        have hzw : W.heap.size ≤ w1.heap.size := hbw.size
        clear hbw hOw hb1
        go_wp2_with (at_builtin; refine wpList_append_lies _ rfl (.tmp 15) (.tmp 17) _ rfl W.heap.size 3 i0 _ 1 8 Try.underlying22 hi0 hz0 hz1 hz2 rfl (by omega) _ _ _ rfl (HOW.out.alloc _) ⟨w1.heap.size, 0, none⟩ 1 1 [.int .i64 k] rfl rfl (World.news_of_block (cs := #[.int .i64 k]) (t := 3) (fr := (0, 0)) (heap_alloc_new w1 (.cells #[.int .i64 k] 3))) (by simp [Value.oneCell']) (by omega) (by unfold maxLen; omega) (by omega) (by simp; omega) (w1.heap.size + 1) (by simp) ?_)
        intro gO capO w2 hown2 hgrow hat hlt3
        go_wp2_with fail
        go_roundw
        case rel =>
          refine ⟨k + 1, by have := HUL.out; omega, by go_num, ?_, ?_⟩
          · rw [Hst.out]
            simpa using hown2
          · exact below_own HBW.out HOW.out hgrow (by omega)
        case measure => simp [intOf]; omega
    · have hfin : (upto np).take k = upto np := List.take_of_length_le (by have := HUL.out; omega)
      have Hfin := Lib.hid hfin
      clear hfin
      go_wp2_with fail
      go_ret
      have hO := HO.out
      rw [Hfin.out] at hO
      obtain ⟨A', c', rfl, _, _⟩ := own_slice hO
      exact ⟨A', c', rfl, own_mono hO (by have := HWS.out; omega), HWB.out.trans (HB.out.mono (by have := HWS.out; omega))⟩
end Go.Proofs.Yteoioboiniealaa
