/- Contracts of the small functions of layer 1 (utf): May, Size, form. -/
import Derived.Test.YtgdkmipkgjkjjaaRows
import Derived.WalkKit
import Derived.Outline
import Derived.Lib.Hide
namespace Go.Proofs.Ytgdkmipkgjkjjaa
open Go.RowKit

/-- May a number be a letter's? -/
@[irreducible] def mayB (r : Int) : Bool := decide (0 ≤ r ∧ r ≤ 1114111 ∧ (r < 55296 ∨ 57343 < r))

theorem mayB_true {r : Int} : mayB r = true ↔ 0 ≤ r ∧ r ≤ 1114111 ∧ (r < 55296 ∨ 57343 < r) := by unfold mayB; simp
theorem mayB_false {r : Int} : mayB r = false ↔ ¬ (0 ≤ r ∧ r ≤ 1114111 ∧ (r < 55296 ∨ 57343 < r)) := by
  rw [← mayB_true]; simp

/-- How many bytes a letter has; 0: it is none. -/
@[irreducible] def sizeI (r : Int) : Int := if mayB r = false then 0 else if r < 128 then 1 else if r < 2048 then 2 else if r < 65536 then 3 else 4
/-- How many bytes a letter has that begins with a byte. -/
@[irreducible] def formN (c : Int) : Int := if c < 128 then 1 else if 194 ≤ c ∧ c < 224 then 2 else if 224 ≤ c ∧ c < 240 then 3 else if 240 ≤ c ∧ c < 245 then 4 else 0
/-- The bits that it has of the letter. -/
@[irreducible] def formR (c : Int) : Int := if c < 128 then c else if 194 ≤ c ∧ c < 224 then c % 32 else if 224 ≤ c ∧ c < 240 then c % 16 else if 240 ≤ c ∧ c < 245 then c % 8 else 0

theorem ret_bool {a b : Bool} (h : a = b) : Ending.returned (.bool a) = .returned (.bool b) := by rw [h]
theorem ret_int {k : IntKind} {a b : Int} (h : a = b) : Ending.returned (.int k a) = .returned (.int k b) := by rw [h]
theorem ret_int2 {k : IntKind} {a b c d : Int} (h : a = b) (h' : c = d) : Ending.returned (.tuple #[.int k a, .int k c]) = .returned (.tuple #[.int k b, .int k d]) := by rw [h, h']

theorem may_any (r : Int) (w : World) :
    Calls Try.prog 15 #[.int .i64 r] w fun e w' => e = .returned (.bool (mayB r)) ∧ w = w' := by
  go_enter Try.func15, Try.ntmps15
  go_wp2
  all_goals
    go_ret
    exact ⟨ret_bool (by symm; first | (rw [mayB_false]; omega) | (rw [mayB_true]; omega) | (rw [Bool.eq_iff_iff, mayB_true]; simp; omega)), rfl⟩

theorem size_any (r : Int) (w : World) :
    Calls Try.prog 17 #[.int .i64 r] w fun e w' => e = .returned (.int .i64 (sizeI r)) ∧ w = w' := by
  cases hm : mayB r
  all_goals
    go_enter Try.func17, Try.ntmps17
    go_wp2_with (go_at_call 15; refine (may_any _ _).mono ?_; rintro e w' ⟨rfl, rfl⟩)
    all_goals
      go_ret
      exact ⟨ret_int (by unfold sizeI; rw [hm]; simp <;> omega), rfl⟩

theorem form_any (c : Int) (h0 : 0 ≤ c) (h1 : c < 256) (w : World) :
    Calls Try.prog 42 #[.int .u8 c] w fun e w' => e = .returned (.tuple #[.int .i64 (formN c), .int .i64 (formR c)]) ∧ w = w' := by
  go_enter Try.func42, Try.ntmps42
  go_wp2
  all_goals
    go_ret2
    exact ⟨ret_int2 (by unfold formN; (repeat' split) <;> omega) (by unfold formR; (repeat' split) <;> omega), rfl⟩

end Go.Proofs.Ytgdkmipkgjkjjaa
