/- The walk of the law SpaceNames, a long text. -/
import Derived.Test.YtgdkmipkgjkjjaaSpaceLawNamesA
namespace Go.Proofs.Ytgdkmipkgjkjjaa
open Go.RowKit

set_option maxHeartbeats 2000000 in
theorem namesC_0 (a0 : ByteArray) (a1 : Int) (w0 : a0.size ≤ maxLen) (hsz : (20 : Int) < a0.size) (hj : bits BinOp.and IntKind.i64 a1 3 = 0) (w : World) :
    Calls Try.prog 11 #[.string a0, .int .i64 a1] w fun e w' => e = .returned (.bool true) ∧ Below w.heap.size w w' := by
  unfold maxLen at w0
  go_enter Try.func11, Try.ntmps11
  go_wp2_with fail
  refine (new_any _).mono ?_
  rintro e w1 ⟨rfl, hb1, hSp, hz1⟩
  have HSp := Lib.hid hSp
  have Hb1 := Lib.hid hb1
  clear hSp hb1 hz1
  go_wp2_with fail
  generalize hgen : a0.extract 0 20 = t
  have htn : t.size ≤ 20 := by rw [← hgen]; simp; omega
  clear hgen
  have hsp := fun w => split_pre 112 t w htn (nameB_lit (by decide +kernel)) (by decide)
  have hsq := fun w => split_pre 113 t w htn (nameB_lit (by decide +kernel)) (by decide)
  have hrn := fun w => rname_any t w (by unfold maxLen; omega)
  obtain ⟨nb, hnb⟩ : ∃ nb, nb = nameB t.data.toList := ⟨_, rfl⟩
  rw [← hnb] at hsp hsq hrn
  clear hnb
  have Hrn := Lib.hid hrn
  have Hsp := Lib.hid hsp
  have Hsq := Lib.hid hsq
  clear hsp hsq hrn
  refine (enter_any (HSp.out.alloc _) (by omega) (by omega) (by decide) [(atP, oneU)] w1.heap.size 1 (flatA [(atP, oneU)]).toArray (heap_alloc_new w1 _) (attrs_at _) (by decide)).mono ?_
  rintro e w2 ⟨ov, A2, cap2, rfl, hSp2, hO2, hF2, hA2⟩
  have hE : enterF (0 + 1) [(atP, oneU)] newB [] = (onceB, [], 0) := by decide +kernel
  rw [hE] at hSp2 ⊢
  have hl := HSp.out.lt
  have hb2 : Below w.heap.size w1 w2 := Below.trans ((Below.refl w.heap.size w1).alloc (by omega) (.cells (flatA [(atP, oneU)]).toArray 47)) (hF2.to_below (B := w.heap.size) (by omega) (by omega) (by simp; omega))
  have Hb2 := Lib.hid (Hb1.out.trans hb2)
  have HSp2 := Lib.hid hSp2
  clear hE hSp2 hO2 hF2 hA2 hb2 hl
  go_wp2_with fail
  refine (spname_any HSp2.out _ _ _ _ Hsp.out).mono ?_
  rintro e w' ⟨rfl, n1, rfl⟩
  obtain ⟨u1, m1, hN, hN2⟩ := nameR_p nb t
  rw [hN]
  have HN := Lib.hid hN2
  clear hN hN2
  go_wp2_with fail
  refine (spname_any (HSp2.out.drewN n1) _ _ _ _ Hsq.out).mono ?_
  rintro e w' ⟨rfl, n2, rfl⟩
  rw [nameR_q nb t]
  have hcn : ∀ (cs : Array Value) (j : Nat), ((w2.drewN (n1 + n2)).alloc (.cells cs 47)).cell? ⟨w2.heap.size, j, none⟩ = cs[j]? := fun cs j => cell_of_row _ _ j _ _ _ (heap_alloc_new (w2.drewN (n1 + n2)) _)
  go_wp2_with fail
  clear hcn
  refine (enter_any ((((HSp2.out.drewN (n1 + n2)).alloc _).alloc _).alloc _) (by omega) (by omega) (by decide) [(⟨#[120, 109, 108, 110, 115, 58, 120, 109, 108]⟩, oneU)] (w2.heap.size + 1 + 1) 1 (flatA [(⟨#[120, 109, 108, 110, 115, 58, 120, 109, 108]⟩, oneU)]).toArray (new_at _ _ _ (by simp)) (attrs_at _) (by decide)).mono ?_
  rintro e w3 ⟨ov3, A3, cap3, rfl, hSp3, hO3, hF3, hA3⟩
  have hE : enterF (0 + 1 + 1) [(⟨#[120, 109, 108, 110, 115, 58, 120, 109, 108]⟩, oneU)] onceB [] = (onceB, [], 3) := by decide +kernel
  rw [hE]
  have hl := HSp2.out.lt
  have hb3 := three_alloc Hb2.out (n1 + n2) (hF3.to_below (B := w.heap.size) (by omega) (by omega) (by have := Hb2.out.size; simp; omega))
  have Hb3 := Lib.hid hb3
  clear hE hSp3 hO3 hF3 hA3 hb3 hl
  go_wp2_with fail
  refine (leave_nil _).mono ?_
  rintro e w' ⟨rfl, rfl⟩
  go_wp2_with fail
  refine (enter_nil _).mono ?_
  rintro e w' ⟨rfl, rfl⟩
  go_wp2_with fail
  refine (of_nil _ _).mono ?_
  rintro e w' ⟨rfl, rfl⟩
  go_wp2_with fail
  refine (Hrn.out _).mono ?_
  rintro e w4 ⟨rfl, hb4⟩
  cases nb
  · go_wp2_with fail
    refine (space_awake _).mono ?_
    rintro e w5 ⟨rfl, hb5⟩
    go_wp2_with fail
    refine (depth_nil _).mono ?_
    rintro e w' ⟨rfl, rfl⟩
    go_wp2_with fail
    go_ret
    exact ⟨rfl, Hb3.out.trans ((hb4.mono Hb3.out.size).trans (hb5.mono (Nat.le_trans Hb3.out.size hb4.size)))⟩
  · obtain ⟨rfl, rfl⟩ := HN.out rfl
    go_wp2_with fail
    refine (space_awake _).mono ?_
    rintro e w5 ⟨rfl, hb5⟩
    go_wp2_with fail
    refine (depth_nil _).mono ?_
    rintro e w' ⟨rfl, rfl⟩
    go_wp2_with fail
    go_ret
    exact ⟨rfl, Hb3.out.trans ((hb4.mono Hb3.out.size).trans (hb5.mono (Nat.le_trans Hb3.out.size hb4.size)))⟩
set_option maxHeartbeats 2000000 in
theorem namesC_1 (a0 : ByteArray) (a1 : Int) (w0 : a0.size ≤ maxLen) (hsz : (20 : Int) < a0.size) (hj : bits BinOp.and IntKind.i64 a1 3 = 1) (w : World) :
    Calls Try.prog 11 #[.string a0, .int .i64 a1] w fun e w' => e = .returned (.bool true) ∧ Below w.heap.size w w' := by
  unfold maxLen at w0
  go_enter Try.func11, Try.ntmps11
  go_wp2_with fail
  refine (new_any _).mono ?_
  rintro e w1 ⟨rfl, hb1, hSp, hz1⟩
  have HSp := Lib.hid hSp
  have Hb1 := Lib.hid hb1
  clear hSp hb1 hz1
  go_wp2_with fail
  generalize hgen : a0.extract 0 20 = t
  have htn : t.size ≤ 20 := by rw [← hgen]; simp; omega
  clear hgen
  have hsp := fun w => split_pre 112 t w htn (nameB_lit (by decide +kernel)) (by decide)
  have hsq := fun w => split_pre 113 t w htn (nameB_lit (by decide +kernel)) (by decide)
  have hrn := fun w => rname_any t w (by unfold maxLen; omega)
  obtain ⟨nb, hnb⟩ : ∃ nb, nb = nameB t.data.toList := ⟨_, rfl⟩
  rw [← hnb] at hsp hsq hrn
  clear hnb
  have Hrn := Lib.hid hrn
  have Hsp := Lib.hid hsp
  have Hsq := Lib.hid hsq
  clear hsp hsq hrn
  refine (enter_any (HSp.out.alloc _) (by omega) (by omega) (by decide) [(atP, oneU)] w1.heap.size 1 (flatA [(atP, oneU)]).toArray (heap_alloc_new w1 _) (attrs_at _) (by decide)).mono ?_
  rintro e w2 ⟨ov, A2, cap2, rfl, hSp2, hO2, hF2, hA2⟩
  have hE : enterF (0 + 1) [(atP, oneU)] newB [] = (onceB, [], 0) := by decide +kernel
  rw [hE] at hSp2 ⊢
  have hl := HSp.out.lt
  have hb2 : Below w.heap.size w1 w2 := Below.trans ((Below.refl w.heap.size w1).alloc (by omega) (.cells (flatA [(atP, oneU)]).toArray 47)) (hF2.to_below (B := w.heap.size) (by omega) (by omega) (by simp; omega))
  have Hb2 := Lib.hid (Hb1.out.trans hb2)
  have HSp2 := Lib.hid hSp2
  clear hE hSp2 hO2 hF2 hA2 hb2 hl
  go_wp2_with fail
  refine (spname_any HSp2.out _ _ _ _ Hsp.out).mono ?_
  rintro e w' ⟨rfl, n1, rfl⟩
  obtain ⟨u1, m1, hN, hN2⟩ := nameR_p nb t
  rw [hN]
  have HN := Lib.hid hN2
  clear hN hN2
  go_wp2_with fail
  refine (spname_any (HSp2.out.drewN n1) _ _ _ _ Hsq.out).mono ?_
  rintro e w' ⟨rfl, n2, rfl⟩
  rw [nameR_q nb t]
  have hcn : ∀ (cs : Array Value) (j : Nat), ((w2.drewN (n1 + n2)).alloc (.cells cs 47)).cell? ⟨w2.heap.size, j, none⟩ = cs[j]? := fun cs j => cell_of_row _ _ j _ _ _ (heap_alloc_new (w2.drewN (n1 + n2)) _)
  go_wp2_with fail
  clear hcn
  refine (enter_any ((((HSp2.out.drewN (n1 + n2)).alloc _).alloc _).alloc _) (by omega) (by omega) (by decide) [(⟨#[120, 109, 108, 110, 115, 58, 120, 109, 108, 110, 115]⟩, oneU)] (w2.heap.size + 1 + 1) 1 (flatA [(⟨#[120, 109, 108, 110, 115, 58, 120, 109, 108, 110, 115]⟩, oneU)]).toArray (new_at _ _ _ (by simp)) (attrs_at _) (by decide)).mono ?_
  rintro e w3 ⟨ov3, A3, cap3, rfl, hSp3, hO3, hF3, hA3⟩
  have hE : enterF (0 + 1 + 1) [(⟨#[120, 109, 108, 110, 115, 58, 120, 109, 108, 110, 115]⟩, oneU)] onceB [] = (onceB, [], 3) := by decide +kernel
  rw [hE]
  have hl := HSp2.out.lt
  have hb3 := three_alloc Hb2.out (n1 + n2) (hF3.to_below (B := w.heap.size) (by omega) (by omega) (by have := Hb2.out.size; simp; omega))
  have Hb3 := Lib.hid hb3
  clear hE hSp3 hO3 hF3 hA3 hb3 hl
  go_wp2_with fail
  refine (leave_nil _).mono ?_
  rintro e w' ⟨rfl, rfl⟩
  go_wp2_with fail
  refine (enter_nil _).mono ?_
  rintro e w' ⟨rfl, rfl⟩
  go_wp2_with fail
  refine (of_nil _ _).mono ?_
  rintro e w' ⟨rfl, rfl⟩
  go_wp2_with fail
  refine (Hrn.out _).mono ?_
  rintro e w4 ⟨rfl, hb4⟩
  cases nb
  · go_wp2_with fail
    refine (space_awake _).mono ?_
    rintro e w5 ⟨rfl, hb5⟩
    go_wp2_with fail
    refine (depth_nil _).mono ?_
    rintro e w' ⟨rfl, rfl⟩
    go_wp2_with fail
    go_ret
    exact ⟨rfl, Hb3.out.trans ((hb4.mono Hb3.out.size).trans (hb5.mono (Nat.le_trans Hb3.out.size hb4.size)))⟩
  · obtain ⟨rfl, rfl⟩ := HN.out rfl
    go_wp2_with fail
    refine (space_awake _).mono ?_
    rintro e w5 ⟨rfl, hb5⟩
    go_wp2_with fail
    refine (depth_nil _).mono ?_
    rintro e w' ⟨rfl, rfl⟩
    go_wp2_with fail
    go_ret
    exact ⟨rfl, Hb3.out.trans ((hb4.mono Hb3.out.size).trans (hb5.mono (Nat.le_trans Hb3.out.size hb4.size)))⟩
set_option maxHeartbeats 2000000 in
theorem namesC_2 (a0 : ByteArray) (a1 : Int) (w0 : a0.size ≤ maxLen) (hsz : (20 : Int) < a0.size) (hj : bits BinOp.and IntKind.i64 a1 3 = 2) (w : World) :
    Calls Try.prog 11 #[.string a0, .int .i64 a1] w fun e w' => e = .returned (.bool true) ∧ Below w.heap.size w w' := by
  unfold maxLen at w0
  go_enter Try.func11, Try.ntmps11
  go_wp2_with fail
  refine (new_any _).mono ?_
  rintro e w1 ⟨rfl, hb1, hSp, hz1⟩
  have HSp := Lib.hid hSp
  have Hb1 := Lib.hid hb1
  clear hSp hb1 hz1
  go_wp2_with fail
  generalize hgen : a0.extract 0 20 = t
  have htn : t.size ≤ 20 := by rw [← hgen]; simp; omega
  clear hgen
  have hsp := fun w => split_pre 112 t w htn (nameB_lit (by decide +kernel)) (by decide)
  have hsq := fun w => split_pre 113 t w htn (nameB_lit (by decide +kernel)) (by decide)
  have hrn := fun w => rname_any t w (by unfold maxLen; omega)
  obtain ⟨nb, hnb⟩ : ∃ nb, nb = nameB t.data.toList := ⟨_, rfl⟩
  rw [← hnb] at hsp hsq hrn
  clear hnb
  have Hrn := Lib.hid hrn
  have Hsp := Lib.hid hsp
  have Hsq := Lib.hid hsq
  clear hsp hsq hrn
  refine (enter_any (HSp.out.alloc _) (by omega) (by omega) (by decide) [(atP, oneU)] w1.heap.size 1 (flatA [(atP, oneU)]).toArray (heap_alloc_new w1 _) (attrs_at _) (by decide)).mono ?_
  rintro e w2 ⟨ov, A2, cap2, rfl, hSp2, hO2, hF2, hA2⟩
  have hE : enterF (0 + 1) [(atP, oneU)] newB [] = (onceB, [], 0) := by decide +kernel
  rw [hE] at hSp2 ⊢
  have hl := HSp.out.lt
  have hb2 : Below w.heap.size w1 w2 := Below.trans ((Below.refl w.heap.size w1).alloc (by omega) (.cells (flatA [(atP, oneU)]).toArray 47)) (hF2.to_below (B := w.heap.size) (by omega) (by omega) (by simp; omega))
  have Hb2 := Lib.hid (Hb1.out.trans hb2)
  have HSp2 := Lib.hid hSp2
  clear hE hSp2 hO2 hF2 hA2 hb2 hl
  go_wp2_with fail
  refine (spname_any HSp2.out _ _ _ _ Hsp.out).mono ?_
  rintro e w' ⟨rfl, n1, rfl⟩
  obtain ⟨u1, m1, hN, hN2⟩ := nameR_p nb t
  rw [hN]
  have HN := Lib.hid hN2
  clear hN hN2
  go_wp2_with fail
  refine (spname_any (HSp2.out.drewN n1) _ _ _ _ Hsq.out).mono ?_
  rintro e w' ⟨rfl, n2, rfl⟩
  rw [nameR_q nb t]
  have hcn : ∀ (cs : Array Value) (j : Nat), ((w2.drewN (n1 + n2)).alloc (.cells cs 47)).cell? ⟨w2.heap.size, j, none⟩ = cs[j]? := fun cs j => cell_of_row _ _ j _ _ _ (heap_alloc_new (w2.drewN (n1 + n2)) _)
  go_wp2_with fail
  clear hcn
  refine (enter_any ((((HSp2.out.drewN (n1 + n2)).alloc _).alloc _).alloc _) (by omega) (by omega) (by decide) [(atP, ⟨#[]⟩)] (w2.heap.size + 1 + 1) 1 (flatA [(atP, ⟨#[]⟩)]).toArray (new_at _ _ _ (by simp)) (attrs_at _) (by decide)).mono ?_
  rintro e w3 ⟨ov3, A3, cap3, rfl, hSp3, hO3, hF3, hA3⟩
  have hE : enterF (0 + 1 + 1) [(atP, ⟨#[]⟩)] onceB [] = (onceB, [], 3) := by decide +kernel
  rw [hE]
  have hl := HSp2.out.lt
  have hb3 := three_alloc Hb2.out (n1 + n2) (hF3.to_below (B := w.heap.size) (by omega) (by omega) (by have := Hb2.out.size; simp; omega))
  have Hb3 := Lib.hid hb3
  clear hE hSp3 hO3 hF3 hA3 hb3 hl
  go_wp2_with fail
  refine (leave_nil _).mono ?_
  rintro e w' ⟨rfl, rfl⟩
  go_wp2_with fail
  refine (enter_nil _).mono ?_
  rintro e w' ⟨rfl, rfl⟩
  go_wp2_with fail
  refine (of_nil _ _).mono ?_
  rintro e w' ⟨rfl, rfl⟩
  go_wp2_with fail
  refine (Hrn.out _).mono ?_
  rintro e w4 ⟨rfl, hb4⟩
  cases nb
  · go_wp2_with fail
    refine (space_awake _).mono ?_
    rintro e w5 ⟨rfl, hb5⟩
    go_wp2_with fail
    refine (depth_nil _).mono ?_
    rintro e w' ⟨rfl, rfl⟩
    go_wp2_with fail
    go_ret
    exact ⟨rfl, Hb3.out.trans ((hb4.mono Hb3.out.size).trans (hb5.mono (Nat.le_trans Hb3.out.size hb4.size)))⟩
  · obtain ⟨rfl, rfl⟩ := HN.out rfl
    go_wp2_with fail
    refine (space_awake _).mono ?_
    rintro e w5 ⟨rfl, hb5⟩
    go_wp2_with fail
    refine (depth_nil _).mono ?_
    rintro e w' ⟨rfl, rfl⟩
    go_wp2_with fail
    go_ret
    exact ⟨rfl, Hb3.out.trans ((hb4.mono Hb3.out.size).trans (hb5.mono (Nat.le_trans Hb3.out.size hb4.size)))⟩
set_option maxHeartbeats 2000000 in
theorem namesC_3 (a0 : ByteArray) (a1 : Int) (w0 : a0.size ≤ maxLen) (hsz : (20 : Int) < a0.size) (hj : bits BinOp.and IntKind.i64 a1 3 = 3) (w : World) :
    Calls Try.prog 11 #[.string a0, .int .i64 a1] w fun e w' => e = .returned (.bool true) ∧ Below w.heap.size w w' := by
  unfold maxLen at w0
  go_enter Try.func11, Try.ntmps11
  go_wp2_with fail
  refine (new_any _).mono ?_
  rintro e w1 ⟨rfl, hb1, hSp, hz1⟩
  have HSp := Lib.hid hSp
  have Hb1 := Lib.hid hb1
  clear hSp hb1 hz1
  go_wp2_with fail
  generalize hgen : a0.extract 0 20 = t
  have htn : t.size ≤ 20 := by rw [← hgen]; simp; omega
  clear hgen
  have hsp := fun w => split_pre 112 t w htn (nameB_lit (by decide +kernel)) (by decide)
  have hsq := fun w => split_pre 113 t w htn (nameB_lit (by decide +kernel)) (by decide)
  have hrn := fun w => rname_any t w (by unfold maxLen; omega)
  obtain ⟨nb, hnb⟩ : ∃ nb, nb = nameB t.data.toList := ⟨_, rfl⟩
  rw [← hnb] at hsp hsq hrn
  clear hnb
  have Hrn := Lib.hid hrn
  have Hsp := Lib.hid hsp
  have Hsq := Lib.hid hsq
  clear hsp hsq hrn
  refine (enter_any (HSp.out.alloc _) (by omega) (by omega) (by decide) [(atP, oneU)] w1.heap.size 1 (flatA [(atP, oneU)]).toArray (heap_alloc_new w1 _) (attrs_at _) (by decide)).mono ?_
  rintro e w2 ⟨ov, A2, cap2, rfl, hSp2, hO2, hF2, hA2⟩
  have hE : enterF (0 + 1) [(atP, oneU)] newB [] = (onceB, [], 0) := by decide +kernel
  rw [hE] at hSp2 ⊢
  have hl := HSp.out.lt
  have hb2 : Below w.heap.size w1 w2 := Below.trans ((Below.refl w.heap.size w1).alloc (by omega) (.cells (flatA [(atP, oneU)]).toArray 47)) (hF2.to_below (B := w.heap.size) (by omega) (by omega) (by simp; omega))
  have Hb2 := Lib.hid (Hb1.out.trans hb2)
  have HSp2 := Lib.hid hSp2
  clear hE hSp2 hO2 hF2 hA2 hb2 hl
  go_wp2_with fail
  refine (spname_any HSp2.out _ _ _ _ Hsp.out).mono ?_
  rintro e w' ⟨rfl, n1, rfl⟩
  obtain ⟨u1, m1, hN, hN2⟩ := nameR_p nb t
  rw [hN]
  have HN := Lib.hid hN2
  clear hN hN2
  go_wp2_with fail
  refine (spname_any (HSp2.out.drewN n1) _ _ _ _ Hsq.out).mono ?_
  rintro e w' ⟨rfl, n2, rfl⟩
  rw [nameR_q nb t]
  have hcn : ∀ (cs : Array Value) (j : Nat), ((w2.drewN (n1 + n2)).alloc (.cells cs 47)).cell? ⟨w2.heap.size, j, none⟩ = cs[j]? := fun cs j => cell_of_row _ _ j _ _ _ (heap_alloc_new (w2.drewN (n1 + n2)) _)
  go_wp2_with fail
  clear hcn
  refine (enter_any ((((HSp2.out.drewN (n1 + n2)).alloc _).alloc _).alloc _) (by omega) (by omega) (by decide) [(⟨#[120, 109, 108, 110, 115]⟩, ⟨#[]⟩)] (w2.heap.size + 1 + 1) 1 (flatA [(⟨#[120, 109, 108, 110, 115]⟩, ⟨#[]⟩)]).toArray (new_at _ _ _ (by simp)) (attrs_at _) (by decide)).mono ?_
  rintro e w3 ⟨ov3, A3, cap3, rfl, hSp3, hO3, hF3, hA3⟩
  have hE : enterF (0 + 1 + 1) [(⟨#[120, 109, 108, 110, 115]⟩, ⟨#[]⟩)] onceB [] = (onceB ++ [(⟨#[]⟩, ⟨#[]⟩, 2)], [], 0) := by decide +kernel
  rw [hE]
  have hl := HSp2.out.lt
  have hb3 := three_alloc Hb2.out (n1 + n2) (hF3.to_below (B := w.heap.size) (by omega) (by omega) (by have := Hb2.out.size; simp; omega))
  have Hb3 := Lib.hid hb3
  clear hE hSp3 hO3 hF3 hA3 hb3 hl
  go_wp2_with fail
  refine (leave_nil _).mono ?_
  rintro e w' ⟨rfl, rfl⟩
  go_wp2_with fail
  refine (enter_nil _).mono ?_
  rintro e w' ⟨rfl, rfl⟩
  go_wp2_with fail
  refine (of_nil _ _).mono ?_
  rintro e w' ⟨rfl, rfl⟩
  go_wp2_with fail
  refine (Hrn.out _).mono ?_
  rintro e w4 ⟨rfl, hb4⟩
  cases nb
  · go_wp2_with fail
    refine (space_awake _).mono ?_
    rintro e w5 ⟨rfl, hb5⟩
    go_wp2_with fail
    refine (depth_nil _).mono ?_
    rintro e w' ⟨rfl, rfl⟩
    go_wp2_with fail
    go_ret
    exact ⟨rfl, Hb3.out.trans ((hb4.mono Hb3.out.size).trans (hb5.mono (Nat.le_trans Hb3.out.size hb4.size)))⟩
  · obtain ⟨rfl, rfl⟩ := HN.out rfl
    go_wp2_with fail
    refine (space_awake _).mono ?_
    rintro e w5 ⟨rfl, hb5⟩
    go_wp2_with fail
    refine (depth_nil _).mono ?_
    rintro e w' ⟨rfl, rfl⟩
    go_wp2_with fail
    go_ret
    exact ⟨rfl, Hb3.out.trans ((hb4.mono Hb3.out.size).trans (hb5.mono (Nat.le_trans Hb3.out.size hb4.size)))⟩
end Go.Proofs.Ytgdkmipkgjkjjaa
