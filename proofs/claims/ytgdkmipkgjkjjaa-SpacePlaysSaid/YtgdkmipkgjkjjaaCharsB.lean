/- The contracts of chars.Name and galliardref01.Name. -/
import Derived.Test.YtgdkmipkgjkjjaaCharsA
namespace Go.Proofs.Ytgdkmipkgjkjjaa
open Go.RowKit

/-- Is a text a name? -/
@[irreducible] def nameB (l : List UInt8) : Bool := decide (0 < l.length ∧ l.length ≤ 60 ∧ startB (Bl l 0) = true ∧ badFrom l 0 < 0 ∧ ∀ i, i < l.length → partB (Bl l i) = true)
theorem nameB_iff {l : List UInt8} : nameB l = true ↔ (0 < l.length ∧ l.length ≤ 60 ∧ startB (Bl l 0) = true ∧ badFrom l 0 < 0 ∧ ∀ i, i < l.length → partB (Bl l i) = true) := by unfold nameB; rw [decide_eq_true_eq]
theorem nameB_no {l : List UInt8} (h : ¬ (0 < l.length ∧ l.length ≤ 60 ∧ startB (Bl l 0) = true ∧ badFrom l 0 < 0 ∧ ∀ i, i < l.length → partB (Bl l i) = true)) : nameB l = false := by
  cases hb : nameB l
  · rfl
  · exact absurd (nameB_iff.1 hb) h
theorem isEmpty_of {s : ByteArray} (h : s.size = 0) : s.toList.isEmpty = true := by
  rw [Lib.toList_data, List.isEmpty_iff]; exact List.eq_nil_of_length_eq_zero (by simpa using h)
theorem not_isEmpty_of {s : ByteArray} (h : 0 < s.size) : s.toList.isEmpty = false := by
  rw [Lib.toList_data]
  cases hc : s.data.toList with
  | nil => rw [Lib.size_eq, hc] at h; simp at h
  | cons a b => rfl

theorem name_any (s : ByteArray) (w : World) (hs : s.size ≤ maxLen) :
    Calls Try.prog 24 #[.string s] w fun e w' => e = .returned (.bool (nameB s.data.toList)) ∧ w = w' := by
  have hs' := hs
  unfold maxLen at hs
  have Hs := Lib.hid hs'
  clear hs'
  by_cases h0 : s.size = 0
  · have hf := nameB_no (l := s.data.toList) (by simp; omega)
    have Hf := Lib.hid hf
    clear hf
    have he := isEmpty_of h0
    clear h0
    go_enter Try.func24, Try.ntmps24
    go_wp2_with fail
    go_ret
    exact ⟨by rw [Hf.out]; rfl, rfl⟩
  · have he := not_isEmpty_of (show 0 < s.size by omega)
    have hpos : 0 < s.size := by omega
    clear h0
    by_cases h60 : (60 : Int) < s.size
    · have hf := nameB_no (l := s.data.toList) (by simp; omega)
      have Hf := Lib.hid hf
      clear hf
      go_enter Try.func24, Try.ntmps24
      go_wp2_with fail
      go_ret
      exact ⟨by rw [Hf.out]; rfl, rfl⟩
    · obtain ⟨b, HB, hx, lo, hi, hs0⟩ := byte_of s 0 hpos
      have hst := start_any b lo hi
      cases hsb : startB b
      · rw [hsb] at hst
        have Hst := Lib.hid hst
        clear hst
        have hf := nameB_no (l := s.data.toList) (by rw [← HB.out, hsb]; simp)
        have Hf := Lib.hid hf
        clear hf hsb
        go_enter Try.func24, Try.ntmps24
        go_wp2_with (go_at_call 31; refine (Hst.out _).mono ?_; rintro e w' ⟨rfl, rfl⟩)
        go_ret
        exact ⟨by rw [Hf.out]; rfl, rfl⟩
      · rw [hsb] at hst
        have Hst := Lib.hid hst
        have Hsb := Lib.hid hsb
        clear hst hsb
        have hbad := bad_any s
        obtain ⟨q, hq⟩ : ∃ q, q = badFrom s.data.toList 0 := ⟨_, rfl⟩
        rw [← hq] at hbad
        have Hbad := Lib.hid hbad
        have Hq := Lib.hid hq
        clear hbad hq
        by_cases hq0 : 0 ≤ q
        · have hf := nameB_no (l := s.data.toList) (by rw [← Hq.out]; omega)
          have Hf := Lib.hid hf
          clear hf
          go_enter Try.func24, Try.ntmps24
          go_wp2_with (first | (go_at_call 31; refine (Hst.out _).mono ?_; rintro e w' ⟨rfl, rfl⟩) | (go_at_call 19; refine (Hbad.out _ Hs.out).mono ?_; rintro e w' ⟨rfl, rfl⟩))
          go_ret
          exact ⟨by rw [Hf.out]; rfl, rfl⟩
        · have hq1 : q < 0 := by omega
          clear hq0
          go_enter Try.func24, Try.ntmps24
          go_wp2_with (first | (go_at_call 31; refine (Hst.out _).mono ?_; rintro e w' ⟨rfl, rfl⟩) | (go_at_call 19; refine (Hbad.out _ Hs.out).mono ?_; rintro e w' ⟨rfl, rfl⟩))
          go_loop [24] (fun a => ∃ k : Nat, k ≤ s.size ∧ a = .int .i64 k ∧ Hid (∀ i, i < k → partB (Bl s.data.toList i) = true)) (fun a => s.size - (intOf a).toNat)
          case atStart => exact ⟨0, by omega, rfl, fun i hi => by omega⟩
          case round =>
            obtain ⟨k, hk, rfl, hinv⟩ := hrel
            by_cases hlt : k < s.size
            · obtain ⟨c, HC, hxc, loc, hic, hsk⟩ := byte_of s k hlt
              have hpt := part_any c loc hic
              cases hpb : partB c
              · rw [hpb] at hpt
                have Hpt := Lib.hid hpt
                clear hpt
                have hf := nameB_no (l := s.data.toList) (fun h => by
                  have := h.2.2.2.2 k (by simpa using hlt)
                  rw [← HC.out, hpb] at this
                  cases this)
                have Hf := Lib.hid hf
                clear hf hpb
                go_wp2_with (go_at_call 30; refine (Hpt.out _).mono ?_; rintro e w' ⟨rfl, rfl⟩)
                go_ret
                exact ⟨by rw [Hf.out]; rfl, rfl⟩
              · rw [hpb] at hpt
                have Hpt := Lib.hid hpt
                have hinv' : Hid (∀ i, i < k + 1 → partB (Bl s.data.toList i) = true) := fun i hi => by
                  by_cases hik : i = k
                  · rw [hik, ← HC.out]; exact hpb
                  · exact hinv i (by omega)
                clear hpt hpb hinv
                go_wp2_with (go_at_call 30; refine (Hpt.out _).mono ?_; rintro e w' ⟨rfl, rfl⟩)
                go_round
                case rel => exact ⟨k + 1, by omega, by go_num, hinv'⟩
                case measure => simp [intOf]; omega
            · have hf := nameB_iff (l := s.data.toList).2 ⟨by simpa using hpos, by simp; omega, by rw [← HB.out]; exact Hsb.out, by rw [← Hq.out]; exact hq1, fun i hi => hinv i (by simp at hi; omega)⟩
              have Hf := Lib.hid hf
              clear hf
              go_wp2_with fail
              go_ret
              exact ⟨by rw [Hf.out]; rfl, rfl⟩
end Go.Proofs.Ytgdkmipkgjkjjaa
