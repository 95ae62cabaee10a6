/- The contract of galliardlaw01.awake. -/
import Derived.Test.YtgdkmipkgjkjjaaUtfF
namespace Go.Proofs.Ytgdkmipkgjkjjaa
open Go.RowKit

theorem getAt_a : getAt [195, 169] 0 = (233, 2) := by decide +kernel
theorem getL_b : getL [97, 255] = (97, 1) := by decide +kernel
theorem getL_c : getL [255] = (0, 0) := by decide +kernel
theorem badFrom_a : badFrom [97, 255] 0 = 1 := by
  rw [badFrom_next (l := [97, 255]) (k := 0) (n := 1) (by simp) (by omega) getL_b, badFrom_bad (l := [97, 255]) (k := 0 + 1) (by simp) getL_c]
  rfl
theorem putI_a : strOfNums (putI 233) = ⟨#[195, 169]⟩ := by
  have h : putI 233 = [195, 169] := by decide +kernel
  rw [h]
  rfl

theorem utf_awake (w : World) : Calls Try.prog 14 #[] w fun e w' => e = .returned (.bool true) ∧ Below w.heap.size w w' := by
  have h1 : ∀ w, Calls Try.prog 13 #[.string ⟨#[195, 169]⟩, .int .i64 0] w fun e w' => e = .returned (.tuple #[.int .i64 233, .int .i64 2]) ∧ w = w' := by
    intro w
    have := get_any ⟨#[195, 169]⟩ 0 w (by decide)
    rw [show (ByteArray.mk #[195, 169]).data.toList = [195, 169] from rfl, getAt_a] at this
    exact this
  have h2 : ∀ w, Calls Try.prog 16 #[.int .i64 233] w fun e w' => e = .returned (.string ⟨#[195, 169]⟩) ∧ Below w.heap.size w w' := by
    intro w
    have := uput_any 233 w
    rw [putI_a] at this
    exact this
  have h3 : ∀ w, Calls Try.prog 19 #[.string ⟨#[97, 255]⟩] w fun e w' => e = .returned (.int .i64 1) ∧ w = w' := by
    intro w
    have := bad_any ⟨#[97, 255]⟩ w (by decide)
    rw [show (ByteArray.mk #[97, 255]).data.toList = [97, 255] from rfl, badFrom_a] at this
    exact this
  have H1 := Lib.hid h1; clear h1
  have H2 := Lib.hid h2; clear h2
  have H3 := Lib.hid h3; clear h3
  go_enter Try.func14, Try.ntmps14
  go_wp2_with fail
  refine (H1.out _).mono ?_
  rintro e w' ⟨rfl, rfl⟩
  go_wp2_with fail
  refine (H2.out _).mono ?_
  rintro e w1 ⟨rfl, hb1⟩
  go_wp2_with fail
  refine (H3.out _).mono ?_
  rintro e w' ⟨rfl, rfl⟩
  go_wp2_with fail
  go_ret
  exact ⟨rfl, hb1⟩
end Go.Proofs.Ytgdkmipkgjkjjaa
