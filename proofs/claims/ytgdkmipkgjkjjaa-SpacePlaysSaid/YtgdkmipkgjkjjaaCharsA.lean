/- Contracts of the small functions of layer 2 (chars): Blank, Start, Part, Letter. -/
import Derived.Test.YtgdkmipkgjkjjaaUtfH
namespace Go.Proofs.Ytgdkmipkgjkjjaa
open Go.RowKit

@[irreducible] def blankB (c : Int) : Bool := decide (c = 32 ∨ c = 9 ∨ c = 10 ∨ c = 13)
@[irreducible] def startB (c : Int) : Bool := decide (97 ≤ c ∧ c ≤ 122 ∨ 65 ≤ c ∧ c ≤ 90 ∨ c = 95 ∨ 128 ≤ c)
@[irreducible] def partB (c : Int) : Bool := decide ((97 ≤ c ∧ c ≤ 122 ∨ 65 ≤ c ∧ c ≤ 90 ∨ c = 95 ∨ 128 ≤ c) ∨ 48 ≤ c ∧ c ≤ 57 ∨ c = 45 ∨ c = 46)
@[irreducible] def letterB (r : Int) : Bool := decide (r < 32 ∧ (r = 9 ∨ r = 10 ∨ r = 13) ∨ 32 ≤ r ∧ mayB r = true ∧ r ≠ 65534 ∧ r ≠ 65535)
theorem blankB_iff {c : Int} : blankB c = true ↔ (c = 32 ∨ c = 9 ∨ c = 10 ∨ c = 13) := by unfold blankB; simp
theorem startB_iff {c : Int} : startB c = true ↔ (97 ≤ c ∧ c ≤ 122 ∨ 65 ≤ c ∧ c ≤ 90 ∨ c = 95 ∨ 128 ≤ c) := by unfold startB; rw [decide_eq_true_eq]
theorem partB_iff {c : Int} : partB c = true ↔ ((97 ≤ c ∧ c ≤ 122 ∨ 65 ≤ c ∧ c ≤ 90 ∨ c = 95 ∨ 128 ≤ c) ∨ 48 ≤ c ∧ c ≤ 57 ∨ c = 45 ∨ c = 46) := by unfold partB; rw [decide_eq_true_eq]
theorem letterB_iff {r : Int} : letterB r = true ↔ (r < 32 ∧ (r = 9 ∨ r = 10 ∨ r = 13) ∨ 32 ≤ r ∧ mayB r = true ∧ r ≠ 65534 ∧ r ≠ 65535) := by unfold letterB; rw [decide_eq_true_eq]
theorem part_of_start {c : Int} (h : startB c = true) : partB c = true := partB_iff.2 (.inl (startB_iff.1 h))
theorem bool_of_iff {b c : Bool} {p : Prop} (h : b = true ↔ p) (g : c = true ↔ p) : c = b := by
  rw [Bool.eq_iff_iff, h, g]

theorem blank_any (c : Int) (h0 : 0 ≤ c) (h1 : c < 256) (w : World) :
    Calls Try.prog 29 #[.int .u8 c] w fun e w' => e = .returned (.bool (blankB c)) ∧ w = w' := by
  go_enter Try.func29, Try.ntmps29
  go_wp2_with fail
  all_goals
    go_ret
    exact ⟨ret_bool (bool_of_iff blankB_iff (by simp <;> omega)), rfl⟩
theorem start_any (c : Int) (h0 : 0 ≤ c) (h1 : c < 256) (w : World) :
    Calls Try.prog 31 #[.int .u8 c] w fun e w' => e = .returned (.bool (startB c)) ∧ w = w' := by
  go_enter Try.func31, Try.ntmps31
  go_wp2_with fail
  all_goals
    go_ret
    exact ⟨ret_bool (bool_of_iff startB_iff (by simp <;> omega)), rfl⟩
theorem part_any (c : Int) (h0 : 0 ≤ c) (h1 : c < 256) (w : World) :
    Calls Try.prog 30 #[.int .u8 c] w fun e w' => e = .returned (.bool (partB c)) ∧ w = w' := by
  cases hs : startB c
  · have hn : ¬ (97 ≤ c ∧ c ≤ 122 ∨ 65 ≤ c ∧ c ≤ 90 ∨ c = 95 ∨ 128 ≤ c) := fun h => by rw [startB_iff.2 h] at hs; cases hs
    have Hn := Lib.hid hn
    clear hn
    go_enter Try.func30, Try.ntmps30
    go_wp2_with (go_at_call 31; refine (start_any _ h0 h1 _).mono ?_; rintro e w' ⟨rfl, rfl⟩)
    all_goals
      go_ret
      exact ⟨ret_bool (bool_of_iff partB_iff (by have := Hn.out; simp <;> omega)), rfl⟩
  · have hp := part_of_start hs
    go_enter Try.func30, Try.ntmps30
    go_wp2_with (go_at_call 31; refine (start_any _ h0 h1 _).mono ?_; rintro e w' ⟨rfl, rfl⟩)
    go_ret
    exact ⟨ret_bool hp.symm, rfl⟩
theorem letter_any (r : Int) (w : World) :
    Calls Try.prog 33 #[.int .i64 r] w fun e w' => e = .returned (.bool (letterB r)) ∧ w = w' := by
  by_cases h : r < 32
  · go_enter Try.func33, Try.ntmps33
    go_wp2_with fail
    all_goals
      go_ret
      exact ⟨ret_bool (bool_of_iff letterB_iff (by simp <;> omega)), rfl⟩
  · cases hm : mayB r
    · have hl : letterB r = false := by
        cases hb : letterB r
        · rfl
        · have := letterB_iff.1 hb
          rw [hm] at this
          simp at this
          omega
      go_enter Try.func33, Try.ntmps33
      go_wp2_with (go_at_call 15; refine (may_any _ _).mono ?_; rintro e w' ⟨rfl, rfl⟩)
      go_ret
      exact ⟨ret_bool hl.symm, rfl⟩
    · go_enter Try.func33, Try.ntmps33
      go_wp2_with (go_at_call 15; refine (may_any _ _).mono ?_; rintro e w' ⟨rfl, rfl⟩)
      all_goals
        go_ret
        exact ⟨ret_bool (bool_of_iff letterB_iff (by rw [hm]; simp <;> omega)), rfl⟩
end Go.Proofs.Ytgdkmipkgjkjjaa
