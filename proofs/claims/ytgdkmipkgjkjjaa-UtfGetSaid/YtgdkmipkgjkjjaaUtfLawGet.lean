/- The walk of the law UtfGet. -/
import Derived.Test.YtgdkmipkgjkjjaaUtfG
namespace Go.Proofs.Ytgdkmipkgjkjjaa
open Go.RowKit

theorem utfGet_walk (a0 : ByteArray) (a1 : Int) (w0 : a0.size ≤ maxLen) (_w1 : (Lit.int .i64 a1).wf = true) (w : World) :
    Calls Try.prog 4 #[.string a0, .int .i64 a1] w fun e w' => e = .returned (.bool true) ∧ Below w.heap.size w w' := by
  clear _w1
  unfold maxLen at w0
  by_cases hsz : (12 : Int) < a0.size
  · go_enter Try.func4, Try.ntmps4
    go_wp2_with fail
    generalize hgen : a0.extract 0 12 = t
    have htn : t.size ≤ 12 := by rw [← hgen]; simp; omega
    clear hgen
    have ht : t.size ≤ maxLen := by unfold maxLen; omega
    by_cases hout : a1 < 0 ∨ (t.size : Int) ≤ a1
    · refine (get_out t _ _ ht hout).mono ?_
      rintro e w' ⟨rfl, rfl⟩
      rcases hout with hout | hout
      · go_wp2_with fail
        refine (utf_awake _).mono ?_
        rintro e w1 ⟨rfl, hb1⟩
        go_wp2_with fail
        go_ret
        exact ⟨rfl, hb1⟩
      · have hneg : ¬ a1 < 0 := by omega
        go_wp2_with fail
        refine (utf_awake _).mono ?_
        rintro e w1 ⟨rfl, hb1⟩
        go_wp2_with fail
        go_ret
        exact ⟨rfl, hb1⟩
    · obtain ⟨k, rfl⟩ := Int.eq_ofNat_of_zero_le (show 0 ≤ a1 by omega)
      have hk : k < t.size := by omega
      obtain ⟨r, n, hg, hn, hn4⟩ := get_at t k hk
      have hc1 := get_some t k ht hk hg
      have hc2 := rget_some t k ht hg
      have Hc1 := Lib.hid hc1
      have Hc2 := Lib.hid hc2
      clear hc1 hc2 hg hout
      refine (Hc1.out _).mono ?_
      rintro e w' ⟨rfl, rfl⟩
      go_wp2_with fail
      refine (Hc2.out _).mono ?_
      rintro e w1 ⟨rfl, hb1⟩
      go_wp2_with fail
      refine (utf_awake _).mono ?_
      rintro e w2 ⟨rfl, hb2⟩
      go_wp2_with fail
      go_ret
      exact ⟨rfl, hb1.trans (hb2.mono hb1.size)⟩
  · have htn : a0.size ≤ 12 := by omega
    go_enter Try.func4, Try.ntmps4
    go_wp2_with fail
    have ht : a0.size ≤ maxLen := by unfold maxLen; omega
    by_cases hout : a1 < 0 ∨ (a0.size : Int) ≤ a1
    · refine (get_out a0 _ _ ht hout).mono ?_
      rintro e w' ⟨rfl, rfl⟩
      rcases hout with hout | hout
      · go_wp2_with fail
        refine (utf_awake _).mono ?_
        rintro e w1 ⟨rfl, hb1⟩
        go_wp2_with fail
        go_ret
        exact ⟨rfl, hb1⟩
      · have hneg : ¬ a1 < 0 := by omega
        go_wp2_with fail
        refine (utf_awake _).mono ?_
        rintro e w1 ⟨rfl, hb1⟩
        go_wp2_with fail
        go_ret
        exact ⟨rfl, hb1⟩
    · obtain ⟨k, rfl⟩ := Int.eq_ofNat_of_zero_le (show 0 ≤ a1 by omega)
      have hk : k < a0.size := by omega
      obtain ⟨r, n, hg, hn, hn4⟩ := get_at a0 k hk
      have hc1 := get_some a0 k ht hk hg
      have hc2 := rget_some a0 k ht hg
      have Hc1 := Lib.hid hc1
      have Hc2 := Lib.hid hc2
      clear hc1 hc2 hg hout
      refine (Hc1.out _).mono ?_
      rintro e w' ⟨rfl, rfl⟩
      go_wp2_with fail
      refine (Hc2.out _).mono ?_
      rintro e w1 ⟨rfl, hb1⟩
      go_wp2_with fail
      refine (utf_awake _).mono ?_
      rintro e w2 ⟨rfl, hb2⟩
      go_wp2_with fail
      go_ret
      exact ⟨rfl, hb1.trans (hb2.mono hb1.size)⟩
end Go.Proofs.Ytgdkmipkgjkjjaa
