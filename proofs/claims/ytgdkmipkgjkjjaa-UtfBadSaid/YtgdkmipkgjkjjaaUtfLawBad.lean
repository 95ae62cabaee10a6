/- The walk of the law UtfBad. -/
import Derived.Test.YtgdkmipkgjkjjaaUtfG
namespace Go.Proofs.Ytgdkmipkgjkjjaa
open Go.RowKit

theorem below_three {B : Nat} {w w1 w2 w3 : World} (h : Below B w w1) (h2 : Below w1.heap.size w1 w2) (h3 : Below w2.heap.size w2 w3) (hB : B ≤ w.heap.size := by exact Nat.le_refl _) : Below B w w3 :=
  (h.trans (h2.mono (Nat.le_trans hB h.size))).trans (h3.mono (Nat.le_trans hB (Nat.le_trans h.size h2.size)))
theorem utfBad_walk (a0 : ByteArray) (w0 : a0.size ≤ maxLen) (w : World) :
    Calls Try.prog 5 #[.string a0] w fun e w' => e = .returned (.bool true) ∧ Below w.heap.size w w' := by
  unfold maxLen at w0
  by_cases hsz : (40 : Int) < a0.size
  · go_enter Try.func5, Try.ntmps5
    go_wp2_with fail
    generalize hgen : a0.extract 0 40 = t
    have htn : t.size ≤ 40 := by rw [← hgen]; simp; omega
    clear hgen
    have ht : t.size ≤ maxLen := by unfold maxLen; omega
    go_loopw [4, 5] (fun c a wr => ∃ k m : Nat, k ≤ t.size ∧ m ≤ k ∧ c = .int .i64 m ∧ a = .int .i64 k ∧ Hid (countFrom t.data.toList 0 = m + countFrom t.data.toList k) ∧ Below w.heap.size w wr) (fun _ a _ => t.size - (intOf a).toNat)
    case atStart => exact ⟨0, 0, by omega, by omega, rfl, rfl, by show _ = _; omega, Below.refl _ _⟩
    case round =>
      obtain ⟨k, m, hk, hmk, rfl, rfl, hinv, hbw⟩ := hrel
      by_cases hlt : k < t.size
      · obtain ⟨r, n, hg, hn, hn4⟩ := get_at t k hlt
        have hc := rget_some t k ht hg
        have Hc := Lib.hid hc
        clear hc
        by_cases h0 : n = 0
        · subst h0
          have hfin := hinv.out
          rw [countFrom_bad (by simpa using hlt) hg, Nat.add_zero] at hfin
          clear hg
          have hcc := count_any t
          rw [hfin] at hcc
          have Hcc := Lib.hid hcc
          clear hfin hcc
          have hbb := bad_any t
          have hrr := rbad_any t
          obtain ⟨q, hq⟩ : ∃ q, q = badFrom t.data.toList 0 := ⟨_, rfl⟩
          rw [← hq] at hbb hrr
          have Hbb := Lib.hid hbb
          have Hrr := Lib.hid hrr
          clear hbb hrr hq
          go_wp2_with fail
          refine (Hc.out _).mono ?_
          rintro e w1 ⟨rfl, hb1⟩
          go_wp2_with fail
          refine (utf_awake _).mono ?_
          rintro e w2 ⟨rfl, hb2⟩
          go_wp2_with fail
          refine (Hbb.out _ ht).mono ?_
          rintro e w' ⟨rfl, rfl⟩
          go_wp2_with fail
          refine (Hrr.out _ ht).mono ?_
          rintro e w3 ⟨rfl, hb3⟩
          go_wp2_with fail
          refine (Hcc.out _ ht).mono ?_
          rintro e w' ⟨rfl, rfl⟩
          go_wp2_with fail
          go_ret
          exact ⟨rfl, below_three (below_three hbw hb1 hb2) (Below.refl _ _) hb3⟩
        · have hfin := hinv.out
          rw [countFrom_next (by simpa using hlt) (by omega) hg] at hfin
          have Hfin := Lib.hid hfin
          clear hfin hg
          have hz : ((n : Int) == 0) = false := by simp; omega
          go_wp2_with fail
          refine (Hc.out _).mono ?_
          rintro e w1 ⟨rfl, hb1⟩
          go_wp2_with fail
          go_roundw
          case rel => exact ⟨k + n, m + 1, by omega, by omega, by go_num, by go_num, by have := Hfin.out; show _ = _; omega, hbw.trans (hb1.mono hbw.size)⟩
          case measure => simp [intOf]; omega
      · have hfin := hinv.out
        rw [countFrom_end (k := k) (by simp; omega), Nat.add_zero] at hfin
        have hcc := count_any t
        rw [hfin] at hcc
        have Hcc := Lib.hid hcc
        clear hfin hcc
        have hbb := bad_any t
        have hrr := rbad_any t
        obtain ⟨q, hq⟩ : ∃ q, q = badFrom t.data.toList 0 := ⟨_, rfl⟩
        rw [← hq] at hbb hrr
        have Hbb := Lib.hid hbb
        have Hrr := Lib.hid hrr
        clear hbb hrr hq
        have hb1 := Below.refl wr.heap.size wr
        go_wp2_with fail
        refine (utf_awake _).mono ?_
        rintro e w2 ⟨rfl, hb2⟩
        go_wp2_with fail
        refine (Hbb.out _ ht).mono ?_
        rintro e w' ⟨rfl, rfl⟩
        go_wp2_with fail
        refine (Hrr.out _ ht).mono ?_
        rintro e w3 ⟨rfl, hb3⟩
        go_wp2_with fail
        refine (Hcc.out _ ht).mono ?_
        rintro e w' ⟨rfl, rfl⟩
        go_wp2_with fail
        go_ret
        exact ⟨rfl, below_three (below_three hbw hb1 hb2) (Below.refl _ _) hb3⟩
  · have htn : a0.size ≤ 40 := by omega
    go_enter Try.func5, Try.ntmps5
    go_wp2_with fail
    have ht : a0.size ≤ maxLen := by unfold maxLen; omega
    go_loopw [4, 5] (fun c a wr => ∃ k m : Nat, k ≤ a0.size ∧ m ≤ k ∧ c = .int .i64 m ∧ a = .int .i64 k ∧ Hid (countFrom a0.data.toList 0 = m + countFrom a0.data.toList k) ∧ Below w.heap.size w wr) (fun _ a _ => a0.size - (intOf a).toNat)
    case atStart => exact ⟨0, 0, by omega, by omega, rfl, rfl, by show _ = _; omega, Below.refl _ _⟩
    case round =>
      obtain ⟨k, m, hk, hmk, rfl, rfl, hinv, hbw⟩ := hrel
      by_cases hlt : k < a0.size
      · obtain ⟨r, n, hg, hn, hn4⟩ := get_at a0 k hlt
        have hc := rget_some a0 k ht hg
        have Hc := Lib.hid hc
        clear hc
        by_cases h0 : n = 0
        · subst h0
          have hfin := hinv.out
          rw [countFrom_bad (by simpa using hlt) hg, Nat.add_zero] at hfin
          clear hg
          have hcc := count_any a0
          rw [hfin] at hcc
          have Hcc := Lib.hid hcc
          clear hfin hcc
          have hbb := bad_any a0
          have hrr := rbad_any a0
          obtain ⟨q, hq⟩ : ∃ q, q = badFrom a0.data.toList 0 := ⟨_, rfl⟩
          rw [← hq] at hbb hrr
          have Hbb := Lib.hid hbb
          have Hrr := Lib.hid hrr
          clear hbb hrr hq
          go_wp2_with fail
          refine (Hc.out _).mono ?_
          rintro e w1 ⟨rfl, hb1⟩
          go_wp2_with fail
          refine (utf_awake _).mono ?_
          rintro e w2 ⟨rfl, hb2⟩
          go_wp2_with fail
          refine (Hbb.out _ ht).mono ?_
          rintro e w' ⟨rfl, rfl⟩
          go_wp2_with fail
          refine (Hrr.out _ ht).mono ?_
          rintro e w3 ⟨rfl, hb3⟩
          go_wp2_with fail
          refine (Hcc.out _ ht).mono ?_
          rintro e w' ⟨rfl, rfl⟩
          go_wp2_with fail
          go_ret
          exact ⟨rfl, below_three (below_three hbw hb1 hb2) (Below.refl _ _) hb3⟩
        · have hfin := hinv.out
          rw [countFrom_next (by simpa using hlt) (by omega) hg] at hfin
          have Hfin := Lib.hid hfin
          clear hfin hg
          have hz : ((n : Int) == 0) = false := by simp; omega
          go_wp2_with fail
          refine (Hc.out _).mono ?_
          rintro e w1 ⟨rfl, hb1⟩
          go_wp2_with fail
          go_roundw
          case rel => exact ⟨k + n, m + 1, by omega, by omega, by go_num, by go_num, by have := Hfin.out; show _ = _; omega, hbw.trans (hb1.mono hbw.size)⟩
          case measure => simp [intOf]; omega
      · have hfin := hinv.out
        rw [countFrom_end (k := k) (by simp; omega), Nat.add_zero] at hfin
        have hcc := count_any a0
        rw [hfin] at hcc
        have Hcc := Lib.hid hcc
        clear hfin hcc
        have hbb := bad_any a0
        have hrr := rbad_any a0
        obtain ⟨q, hq⟩ : ∃ q, q = badFrom a0.data.toList 0 := ⟨_, rfl⟩
        rw [← hq] at hbb hrr
        have Hbb := Lib.hid hbb
        have Hrr := Lib.hid hrr
        clear hbb hrr hq
        have hb1 := Below.refl wr.heap.size wr
        go_wp2_with fail
        refine (utf_awake _).mono ?_
        rintro e w2 ⟨rfl, hb2⟩
        go_wp2_with fail
        refine (Hbb.out _ ht).mono ?_
        rintro e w' ⟨rfl, rfl⟩
        go_wp2_with fail
        refine (Hrr.out _ ht).mono ?_
        rintro e w3 ⟨rfl, hb3⟩
        go_wp2_with fail
        refine (Hcc.out _ ht).mono ?_
        rintro e w' ⟨rfl, rfl⟩
        go_wp2_with fail
        go_ret
        exact ⟨rfl, below_three (below_three hbw hb1 hb2) (Below.refl _ _) hb3⟩
end Go.Proofs.Ytgdkmipkgjkjjaa
