/- The contract of galliardlaw02.awake; names of plain letters. -/
import Derived.Test.YtgdkmipkgjkjjaaCharsE
import Derived.Test.YtgdkmipkgjkjjaaCharsF
namespace Go.Proofs.Ytgdkmipkgjkjjaa
open Go.RowKit

theorem getL_ascii {l : List UInt8} {k : Nat} (h : k < l.length) (hb : Bl l k < 128) : getL (l.drop k) = (Bl l k, 1) := by
  have e : Bl (l.drop k) 0 = Bl l k := by rw [Bl_drop, Nat.add_zero]
  rw [getL_ok1 (l.drop k) ⟨by simp; omega, by rw [e]; exact hb⟩, rN_1, e]
theorem badFrom_ascii (l : List UInt8) (h : ∀ i, i < l.length → Bl l i < 128) : ∀ (m k : Nat), l.length - k ≤ m → badFrom l k = -1
  | 0, k, hk => badFrom_end (by omega)
  | m + 1, k, hk => by
    by_cases hlt : k < l.length
    · rw [badFrom_next hlt (n := 1) (by omega) (getL_ascii hlt (h k hlt))]
      exact badFrom_ascii l h m (k + 1) (by omega)
    · exact badFrom_end (by omega)
theorem nameB_ascii {l : List UInt8} (h : ∀ i, i < l.length → Bl l i < 128) : nameB l = true ↔ (0 < l.length ∧ l.length ≤ 60 ∧ startB (Bl l 0) = true ∧ ∀ i, i < l.length → partB (Bl l i) = true) := by
  rw [nameB_iff, badFrom_ascii l h l.length 0 (by omega)]
  constructor
  · rintro ⟨a, b, c, _, d⟩; exact ⟨a, b, c, d⟩
  · rintro ⟨a, b, c, d⟩; exact ⟨a, b, c, by omega, d⟩
theorem nameB_lit {l : List UInt8} (h : decide ((∀ i, i < l.length → Bl l i < 128) ∧ 0 < l.length ∧ l.length ≤ 60 ∧ startB (Bl l 0) = true ∧ ∀ i, i < l.length → partB (Bl l i) = true) = true) : nameB l = true := by
  rw [decide_eq_true_eq] at h
  exact (nameB_ascii h.1).2 h.2
theorem nameB_nolit {l : List UInt8} (h : startB (Bl l 0) = false) : nameB l = false := nameB_no (fun hh => by rw [h] at hh; cases hh.2.2.1)

theorem chars_awake (w : World) : Calls Try.prog 23 #[] w fun e w' => e = .returned (.bool true) ∧ Below w.heap.size w w' := by
  have h1 : ∀ w, Calls Try.prog 22 #[.string ⟨#[97, 58, 98]⟩] w fun e w' => e = .returned (.tuple #[.string ⟨#[97]⟩, .string ⟨#[98]⟩, .bool true]) ∧ ∃ n, w' = w.drewN n := by
    intro w
    have h := split_at ⟨#[97, 58, 98]⟩ 1 w (by decide) (by decide) (by decide +kernel) (by decide +kernel)
    have e1 : (ByteArray.mk #[97, 58, 98]).extract 0 1 = ⟨#[97]⟩ := by decide +kernel
    have e2 : (ByteArray.mk #[97, 58, 98]).extract (1 + 1) (ByteArray.mk #[97, 58, 98]).size = ⟨#[98]⟩ := by decide +kernel
    rw [e1, e2] at h
    have n1 : nameB (ByteArray.mk #[97]).data.toList = true := nameB_lit (by decide +kernel)
    have n2 : nameB (ByteArray.mk #[98]).data.toList = true := nameB_lit (by decide +kernel)
    rw [n1, n2] at h
    exact h
  have h2 : ∀ w, Calls Try.prog 24 #[.string ⟨#[120, 45, 49]⟩] w fun e w' => e = .returned (.bool true) ∧ w = w' := by
    intro w
    have h := name_any ⟨#[120, 45, 49]⟩ w (by decide)
    rw [show nameB (ByteArray.mk #[120, 45, 49]).data.toList = true from nameB_lit (by decide +kernel)] at h
    exact h
  have h3 : ∀ w, Calls Try.prog 24 #[.string ⟨#[49, 120]⟩] w fun e w' => e = .returned (.bool false) ∧ w = w' := by
    intro w
    have h := name_any ⟨#[49, 120]⟩ w (by decide)
    rw [show nameB (ByteArray.mk #[49, 120]).data.toList = false from nameB_nolit (by decide +kernel)] at h
    exact h
  have h4 : ∀ w, Calls Try.prog 26 #[.string ⟨#[32, 97, 32]⟩] w fun e w' => e = .returned (.string ⟨#[97]⟩) ∧ w = w' := by
    intro w
    have h := trim_any ⟨#[32, 97, 32]⟩ w (by decide)
    rw [show baL (trimL (ByteArray.mk #[32, 97, 32]).data.toList) = ⟨#[97]⟩ by decide +kernel] at h
    exact h
  have H1 := Lib.hid h1; clear h1
  have H2 := Lib.hid h2; clear h2
  have H3 := Lib.hid h3; clear h3
  have H4 := Lib.hid h4; clear h4
  go_enter Try.func23, Try.ntmps23
  go_wp2_with fail
  refine (H1.out _).mono ?_
  rintro e w' ⟨rfl, n, rfl⟩
  go_wp2_with fail
  refine (H2.out _).mono ?_
  rintro e w' ⟨rfl, rfl⟩
  go_wp2_with fail
  refine (H3.out _).mono ?_
  rintro e w' ⟨rfl, rfl⟩
  go_wp2_with fail
  refine (H4.out _).mono ?_
  rintro e w' ⟨rfl, rfl⟩
  go_wp2_with fail
  go_ret
  exact ⟨rfl, ⟨rfl, rfl, rfl, Nat.le_refl _, fun _ _ => rfl⟩⟩
end Go.Proofs.Ytgdkmipkgjkjjaa
