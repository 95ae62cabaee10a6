/- The contract of galliardref01.Name. -/
import Derived.Test.YtgdkmipkgjkjjaaCharsB
namespace Go.Proofs.Ytgdkmipkgjkjjaa
open Go.RowKit

set_option maxHeartbeats 1000000 in
theorem rname_any (s : ByteArray) (w : World) (hs : s.size ≤ maxLen) :
    Calls Try.prog 25 #[.string s] w fun e w' => e = .returned (.bool (nameB s.data.toList)) ∧ Below w.heap.size w w' := by
  have hs' := hs
  unfold maxLen at hs
  have Hs := Lib.hid hs'
  clear hs'
  by_cases h0 : s.size = 0
  · have hf := nameB_no (l := s.data.toList) (by simp; omega)
    have Hf := Lib.hid hf
    clear hf
    have he := isEmpty_of h0
    clear h0
    go_enter Try.func25, Try.ntmps25
    go_wp2_with fail
    go_ret
    exact ⟨by rw [Hf.out]; rfl, Below.refl _ _⟩
  · have he := not_isEmpty_of (show 0 < s.size by omega)
    have hpos : 0 < s.size := by omega
    clear h0
    by_cases h60 : (60 : Int) < s.size
    · have hf := nameB_no (l := s.data.toList) (by simp; omega)
      have Hf := Lib.hid hf
      clear hf
      go_enter Try.func25, Try.ntmps25
      go_wp2_with fail
      go_ret
      exact ⟨by rw [Hf.out]; rfl, Below.refl _ _⟩
    · have hbad := rbad_any s
      obtain ⟨q, hq⟩ : ∃ q, q = badFrom s.data.toList 0 := ⟨_, rfl⟩
      rw [← hq] at hbad
      have Hbad := Lib.hid hbad
      have Hq := Lib.hid hq
      clear hbad hq
      by_cases hq0 : 0 ≤ q
      · have hf := nameB_no (l := s.data.toList) (by rw [← Hq.out]; omega)
        have Hf := Lib.hid hf
        clear hf
        go_enter Try.func25, Try.ntmps25
        go_wp2_with fail
        refine (Hbad.out _ Hs.out).mono ?_
        rintro e w1 ⟨rfl, hb1⟩
        go_wp2_with fail
        go_ret
        exact ⟨by rw [Hf.out]; rfl, hb1⟩
      · have hq1 : q < 0 := by omega
        clear hq0
        go_enter Try.func25, Try.ntmps25
        go_wp2_with fail
        refine (Hbad.out _ Hs.out).mono ?_
        rintro e w1 ⟨rfl, hb1⟩
        go_wp2_with fail
        go_loop [3] (fun a => ∃ k : Nat, k ≤ s.size ∧ a = .int .i64 k ∧ Hid (∀ i, i < k → partB (Bl s.data.toList i) = true ∧ (i = 0 → startB (Bl s.data.toList i) = true))) (fun a => s.size - (intOf a).toNat)
        case atStart => exact ⟨0, by omega, rfl, fun i hi => by omega⟩
        case round =>
          obtain ⟨k, hk, rfl, hinv⟩ := hrel
          by_cases hlt : k < s.size
          · obtain ⟨c, HC, hxc, loc, hic, hsk⟩ := byte_of s k hlt
            by_cases good : startB c = true ∨ (0 < k ∧ partB c = true)
            · have hinv' : Hid (∀ i, i < k + 1 → partB (Bl s.data.toList i) = true ∧ (i = 0 → startB (Bl s.data.toList i) = true)) := fun i hi => by
                by_cases hik : i = k
                · rw [hik, ← HC.out]
                  rcases good with g | ⟨g0, g⟩
                  · exact ⟨part_of_start g, fun _ => g⟩
                  · exact ⟨g, fun h => by omega⟩
                · exact hinv i (by omega)
              clear hinv
              have hcase : (97 ≤ c ∧ c ≤ 122 ∨ 65 ≤ c ∧ c ≤ 90 ∨ c = 95 ∨ 128 ≤ c) ∨ (0 < k ∧ (48 ≤ c ∧ c ≤ 57 ∨ c = 45 ∨ c = 46)) := by
                rcases good with g | ⟨g0, g⟩
                · exact .inl (startB_iff.1 g)
                · rcases partB_iff.1 g with g | g
                  · exact .inl g
                  · exact .inr ⟨g0, g⟩
              clear good
              rcases hcase with hc | ⟨g0, hc⟩
              · rcases hc with ⟨c1, c2⟩ | ⟨c1, c2⟩ | c1 | c1
                all_goals
                  first | subst c1 | skip
                  go_wp2_with fail
                  go_round
                  case rel => exact ⟨k + 1, by omega, by go_num, hinv'⟩
                  case measure => simp [intOf]; omega
              · have hk0 : ((k : Int) == 0) = false := by simp; omega
                rcases hc with ⟨c1, c2⟩ | c1 | c1
                all_goals
                  first | subst c1 | skip
                  go_wp2_with fail
                  go_round
                  case rel => exact ⟨k + 1, by omega, by go_num, hinv'⟩
                  case measure => simp [intOf]; omega
            · have hf := nameB_no (l := s.data.toList) (fun h => good (by
                by_cases hk0 : k = 0
                · left; have := h.2.2.1; rw [← hk0, ← HC.out] at this; exact this
                · right; have := h.2.2.2.2 k (by simpa using hlt); rw [← HC.out] at this; exact ⟨by omega, this⟩))
              have Hf := Lib.hid hf
              clear hf
              have hbadc : ¬ ((97 ≤ c ∧ c ≤ 122 ∨ 65 ≤ c ∧ c ≤ 90 ∨ c = 95 ∨ 128 ≤ c)) := fun h => good (.inl (startB_iff.2 h))
              have hbadk : k = 0 ∨ ¬ (48 ≤ c ∧ c ≤ 57 ∨ c = 45 ∨ c = 46) := by
                by_cases hk0 : k = 0
                · exact .inl hk0
                · exact .inr fun h => good (.inr ⟨by omega, partB_iff.2 (.inr h)⟩)
              clear good hinv
              have Hbc := Lib.hid hbadc
              rcases hbadk with hk0 | hbk
              · subst hk0
                go_wp2_with fail
                all_goals
                  first
                  | (go_ret; exact ⟨by rw [Hf.out]; rfl, hb1⟩)
                  | (exfalso; rename_i hlast; simp at hlast; have := Hbc.out; omega)
              · by_cases hk0 : k = 0
                · subst hk0
                  go_wp2_with fail
                  all_goals
                    first
                    | (go_ret; exact ⟨by rw [Hf.out]; rfl, hb1⟩)
                    | (exfalso; rename_i hlast; simp at hlast; have := Hbc.out; omega)
                · have hk1 : ((k : Int) == 0) = false := by simp; omega
                  have Hbk := Lib.hid hbk
                  go_wp2_with fail
                  all_goals
                    first
                    | (go_ret; exact ⟨by rw [Hf.out]; rfl, hb1⟩)
                    | (exfalso; rename_i hlast; simp at hlast; have := Hbc.out; have := Hbk.out; omega)
          · have hf := nameB_iff (l := s.data.toList).2 ⟨by simpa using hpos, by simp; omega, (hinv 0 (by omega)).2 rfl, by rw [← Hq.out]; exact hq1, fun i hi => (hinv i (by simp at hi; omega)).1⟩
            have Hf := Lib.hid hf
            clear hf
            go_wp2_with fail
            go_ret
            exact ⟨by rw [Hf.out]; rfl, hb1⟩
end Go.Proofs.Ytgdkmipkgjkjjaa
