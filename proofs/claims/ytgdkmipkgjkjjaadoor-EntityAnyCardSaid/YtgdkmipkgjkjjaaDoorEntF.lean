/- The contract of galliardlaw03.awake; the walk of the law EntityBack. -/
import Derived.Test.YtgdkmipkgjkjjaaDoorEntE
import Derived.Deep.DeepCutAuto
namespace Go.Proofs.YtgdkmipkgjkjjaaDoor
open Go.RowKit

theorem open_a : openF [97, 38, 97, 109, 112, 59, 38, 35, 120, 54, 50, 59] = ([97, 38, 98], -1) := by
  unfold openF
  rw [openG_plain (by decide), openG_some (k := 3) (by decide +kernel) (by decide +kernel)]
  show openG (38 :: [35, 120, 54, 50, 59]) _ _ = _
  rw [openG_some (k := 4) (by decide +kernel) (by decide +kernel)]
  show openG [] _ _ = _
  rw [openG_nil]
  decide +kernel
theorem open_b : openF [120, 38, 121] = ([], 1) := by
  unfold openF
  rw [openG_plain (by decide), openG_open (by decide +kernel)]
  rfl
theorem ent_awake (w : World) (hN : NamesAt w) : Calls Tryd.prog 8 #[] w fun e w' => e = .returned (.bool true) ∧ Below w.heap.size w w' := by
  have h1 : ∀ w, NamesAt w → Calls Tryd.prog 6 #[.string ⟨#[97, 38, 97, 109, 112, 59, 38, 35, 120, 54, 50, 59]⟩] w fun e w' => e = .returned (.tuple #[.string ⟨#[97, 38, 98]⟩, .int .i64 (-1)]) ∧ Below w.heap.size w w' := by
    intro w hN
    have := open_any ⟨#[97, 38, 97, 109, 112, 59, 38, 35, 120, 54, 50, 59]⟩ w (by decide) hN
    rw [show (ByteArray.mk #[97, 38, 97, 109, 112, 59, 38, 35, 120, 54, 50, 59]).data.toList = [97, 38, 97, 109, 112, 59, 38, 35, 120, 54, 50, 59] from rfl, open_a] at this
    exact this
  have h2 : ∀ w, NamesAt w → Calls Tryd.prog 6 #[.string ⟨#[120, 38, 121]⟩] w fun e w' => e = .returned (.tuple #[.string ⟨#[]⟩, .int .i64 1]) ∧ Below w.heap.size w w' := by
    intro w hN
    have := open_any ⟨#[120, 38, 121]⟩ w (by decide) hN
    rw [show (ByteArray.mk #[120, 38, 121]).data.toList = [120, 38, 121] from rfl, open_b] at this
    exact this
  have h3 : ∀ w, Calls Tryd.prog 7 #[.string ⟨#[60]⟩] w fun e w' => e = .returned (.string ⟨#[38, 108, 116, 59]⟩) ∧ Below w.heap.size w w' := fun w => close_any ⟨#[60]⟩ w (by decide)
  have H1 := Lib.hid h1
  have H2 := Lib.hid h2
  have H3 := Lib.hid h3
  have HN := Lib.hid hN
  clear h1 h2 h3 hN
  go_enter Tryd.func8, Tryd.ntmps8
  go_wp2_with fail
  refine (H1.out _ HN.out).mono ?_
  rintro e w1 ⟨rfl, hb1⟩
  have HB1 := Lib.hid hb1
  clear hb1
  go_wp2_with fail
  refine (H2.out _ (HN.out.below HB1.out)).mono ?_
  rintro e w2 ⟨rfl, hb2⟩
  have HB2 := Lib.hid (HB1.out.trans (hb2.mono HB1.out.size))
  clear hb2
  go_wp2_with fail
  refine (H3.out _).mono ?_
  rintro e w3 ⟨rfl, hb3⟩
  have HB3 := Lib.hid (HB2.out.trans (hb3.mono HB2.out.size))
  clear hb3
  go_wp2_with fail
  go_ret
  exact ⟨rfl, HB3.out⟩

set_option maxHeartbeats 1000000 in
/-- Behind the cut. -/
theorem entityBack_walk (a0 : ByteArray) (w1 : a0.size ≤ maxLen) (w : World) (hN : NamesAt w) :
    Calls Tryd.prog 3 #[.string a0] w fun e w' => e = .returned (.bool true) ∧ Below w.heap.size w w' := by
  unfold maxLen at w1
  have HN := Lib.hid hN
  clear hN
  have hall : ∀ t : ByteArray, t.size ≤ 40 → (∀ w, Calls Tryd.prog 7 #[.string t] w fun e w' => e = .returned (.string (baL (closeF t.data.toList))) ∧ Below w.heap.size w w') ∧ (∀ w, Calls Tryd.prog 9 #[.string t] w fun e w' => e = .returned (.string (baL (closeF t.data.toList))) ∧ w = w') ∧
      (∀ w, NamesAt w → Calls Tryd.prog 6 #[.string (baL (closeF t.data.toList))] w fun e w' => e = .returned (.tuple #[.string t, .int .i64 (-1)]) ∧ Below w.heap.size w w') := by
    intro t ht
    refine ⟨fun w => close_any t w (by omega), fun w => rclose_any t w (by omega), fun w hN => ?_⟩
    have hl : (baL (closeF t.data.toList)).size ≤ 1000000 := by
      rw [baL_size]
      have := closeF_len t.data.toList
      simp at this
      omega
    have h := open_any (baL (closeF t.data.toList)) w hl hN
    have e : openF (baL (closeF t.data.toList)).data.toList = (t.data.toList, -1) := by
      rw [baL_data]
      unfold openF
      rw [open_close]
      rfl
    rw [e] at h
    have e2 : baL (t.data.toList, (-1 : Int)).1 = t := (eq_baL rfl).symm
    rw [e2] at h
    exact h
  have HALL := Lib.hid hall
  clear hall
  by_cases hsz : (40 : Int) < a0.size
  · have hmin : min (a0.size : Int) 40 = 40 := by omega
    go_enter Tryd.func3, Tryd.ntmps3
    go_wp2_with fail
    generalize hgen : a0.extract 0 40 = t
    have htn : t.size ≤ 40 := by rw [← hgen]; simp; omega
    clear hgen
    obtain ⟨ha, hb, hc⟩ := HALL.out t htn
    obtain ⟨S, hS⟩ : ∃ S, S = baL (closeF t.data.toList) := ⟨_, rfl⟩
    rw [← hS] at ha hb hc
    have HA := Lib.hid ha
    have HB := Lib.hid hb
    have HC := Lib.hid hc
    clear ha hb hc hS
    refine (HA.out _).mono ?_
    rintro e w2 ⟨rfl, hb2⟩
    have HB2 := Lib.hid hb2
    clear hb2
    go_wp2_with fail
    refine (HC.out _ (HN.out.below HB2.out)).mono ?_
    rintro e w3 ⟨rfl, hb3⟩
    have HB3 := Lib.hid (HB2.out.trans (hb3.mono HB2.out.size))
    clear hb3
    go_wp2_with fail
    refine (ent_awake _ (HN.out.below HB3.out)).mono ?_
    rintro e w4 ⟨rfl, hb4⟩
    have HB4 := Lib.hid (HB3.out.trans (hb4.mono HB3.out.size))
    clear hb4
    go_wp2_with fail
    refine (HA.out _).mono ?_
    rintro e w5 ⟨rfl, hb5⟩
    have HB5 := Lib.hid (HB4.out.trans (hb5.mono HB4.out.size))
    clear hb5
    go_wp2_with fail
    refine (HB.out _).mono ?_
    rintro e w6 ⟨rfl, rfl⟩
    go_wp2_with fail
    go_ret
    exact ⟨rfl, HB5.out⟩
  · have hle : a0.size ≤ 40 := by omega
    have hmin : min (a0.size : Int) 40 = a0.size := by omega
    go_enter Tryd.func3, Tryd.ntmps3
    go_wp2_with fail
    obtain ⟨ha, hb, hc⟩ := HALL.out a0 hle
    obtain ⟨S, hS⟩ : ∃ S, S = baL (closeF a0.data.toList) := ⟨_, rfl⟩
    rw [← hS] at ha hb hc
    have HA := Lib.hid ha
    have HB := Lib.hid hb
    have HC := Lib.hid hc
    clear ha hb hc hS
    refine (HA.out _).mono ?_
    rintro e w2 ⟨rfl, hb2⟩
    have HB2 := Lib.hid hb2
    clear hb2
    go_wp2_with fail
    refine (HC.out _ (HN.out.below HB2.out)).mono ?_
    rintro e w3 ⟨rfl, hb3⟩
    have HB3 := Lib.hid (HB2.out.trans (hb3.mono HB2.out.size))
    clear hb3
    go_wp2_with fail
    refine (ent_awake _ (HN.out.below HB3.out)).mono ?_
    rintro e w4 ⟨rfl, hb4⟩
    have HB4 := Lib.hid (HB3.out.trans (hb4.mono HB3.out.size))
    clear hb4
    go_wp2_with fail
    refine (HA.out _).mono ?_
    rintro e w5 ⟨rfl, hb5⟩
    have HB5 := Lib.hid (HB4.out.trans (hb5.mono HB4.out.size))
    clear hb5
    go_wp2_with fail
    refine (HB.out _).mono ?_
    rintro e w6 ⟨rfl, rfl⟩
    go_wp2_with fail
    go_ret
    exact ⟨rfl, HB5.out⟩
end Go.Proofs.YtgdkmipkgjkjjaaDoor
