/- The contracts of galliardlaw03.num and hex. -/
import Derived.Test.YtgdkmipkgjkjjaaDoorEntF
import Derived.Deep.QuietTactic
import Derived.IntWalk
namespace Go.Proofs.YtgdkmipkgjkjjaaDoor
open Go.RowKit
attribute [local go_sem] conv_new1

theorem dec_one {d : Nat} (h : d < 10) : strOfNums [48 + (d : Int)] = baL [UInt8.ofNat (48 + d)] := by
  have : d = 0 ∨ d = 1 ∨ d = 2 ∨ d = 3 ∨ d = 4 ∨ d = 5 ∨ d = 6 ∨ d = 7 ∨ d = 8 ∨ d = 9 := by omega
  rcases this with rfl | rfl | rfl | rfl | rfl | rfl | rfl | rfl | rfl | rfl <;> decide +kernel
def hexD : ByteArray := ⟨#[48, 49, 50, 51, 52, 53, 54, 55, 56, 57, 97, 98, 99, 100, 101, 102]⟩
theorem hex_one {d : Nat} (h : d < 16) : hexD.extract d (d + 1) = baL [hexC d] := by
  have : d = 0 ∨ d = 1 ∨ d = 2 ∨ d = 3 ∨ d = 4 ∨ d = 5 ∨ d = 6 ∨ d = 7 ∨ d = 8 ∨ d = 9 ∨ d = 10 ∨ d = 11 ∨ d = 12 ∨ d = 13 ∨ d = 14 ∨ d = 15 := by omega
  rcases this with rfl | rfl | rfl | rfl | rfl | rfl | rfl | rfl | rfl | rfl | rfl | rfl | rfl | rfl | rfl | rfl <;> decide +kernel

theorem num_small (k : Nat) (h : k < 10) (w : World) : Calls Tryd.prog 12 #[.int .i64 k] w fun e w' => e = .returned (.string (baL (numF k))) ∧ Below w.heap.size w w' := by
  have hf := dec_one h
  rw [← numF_small h] at hf
  have Hf := Lib.hid hf
  clear hf
  have hI : (k : Int) < 10 := by omega
  go_enter Tryd.func12, Tryd.ntmps12
  go_wp2_with fail
  go_ret
  exact ⟨ret_str Hf.out, (Below.refl _ _).alloc (Nat.le_refl _) _⟩
theorem num_any : ∀ (m k : Nat), k ≤ m → k ≤ 2097151 → ∀ (x : Int), x = (k : Int) → ∀ w : World, Calls Tryd.prog 12 #[.int .i64 x] w fun e w' => e = .returned (.string (baL (numF k))) ∧ Below w.heap.size w w' := by
  intro m
  induction m with
  | zero =>
    intro k h1 h2 x hx w
    subst hx
    exact num_small k (by omega) w
  | succ m ih =>
    intro k h1 h2 x hx w
    subst hx
    by_cases h : k < 10
    · exact num_small k h w
    · have hc1 := ih (k / 10) (by omega) (by omega) ((k : Int) / 10) (by omega)
      have hc2 := num_small (k % 10) (by omega)
      have hm : ((k % 10 : Nat) : Int) = (k : Int) % 10 := by omega
      rw [hm] at hc2
      have hf : baL (numF (k / 10)) ++ baL (numF (k % 10)) = baL (numF k) := by
        rw [ba_append, numF_small (show k % 10 < 10 by omega), ← numF_more h]
      have l1 : (baL (numF (k / 10))).size ≤ 7 := by rw [baL_size]; exact numF_len 6 _ (by omega)
      have l2 : (baL (numF (k % 10))).size ≤ 7 := by rw [baL_size]; exact numF_len 6 _ (by omega)
      obtain ⟨S1, hS1⟩ : ∃ S, S = baL (numF (k / 10)) := ⟨_, rfl⟩
      obtain ⟨S2, hS2⟩ : ∃ S, S = baL (numF (k % 10)) := ⟨_, rfl⟩
      rw [← hS1] at hc1 hf l1
      rw [← hS2] at hc2 hf l2
      have HC1 := Lib.hid hc1
      have HC2 := Lib.hid hc2
      have HF := Lib.hid hf
      have hI : ¬ (k : Int) < 10 := by omega
      clear hS1 hS2 hc1 hc2 hf hm ih h1 h
      go_enter Tryd.func12, Tryd.ntmps12
      go_wp2_with fail
      refine (HC1.out _).mono ?_
      rintro e w1 ⟨rfl, hb1⟩
      have HB1 := Lib.hid hb1
      clear hb1
      go_wp2_with fail
      refine (HC2.out _).mono ?_
      rintro e w2 ⟨rfl, hb2⟩
      have HB2 := Lib.hid (HB1.out.trans (hb2.mono HB1.out.size))
      clear hb2
      go_wp2_with fail
      go_ret
      exact ⟨ret_str HF.out, HB2.out⟩

theorem hex_small (k : Nat) (h : k < 16) (w : World) : Calls Tryd.prog 14 #[.int .i64 k] w fun e w' => e = .returned (.string (baL (hexF k))) ∧ ∃ n, w' = w.drewN n := by
  have hf := hex_one h
  rw [← hexF_small h] at hf
  unfold hexD at hf
  have Hf := Lib.hid hf
  clear hf
  have hI : (k : Int) < 16 := by omega
  go_enter Tryd.func14, Tryd.ntmps14
  go_wp2_with fail
  go_ret
  exact ⟨ret_str Hf.out, 0, rfl⟩
theorem hex_any : ∀ (m k : Nat), k ≤ m → k ≤ 2097151 → ∀ (x : Int), x = (k : Int) → ∀ w : World, Calls Tryd.prog 14 #[.int .i64 x] w fun e w' => e = .returned (.string (baL (hexF k))) ∧ ∃ n, w' = w.drewN n := by
  intro m
  induction m with
  | zero =>
    intro k h1 h2 x hx w
    subst hx
    exact hex_small k (by omega) w
  | succ m ih =>
    intro k h1 h2 x hx w
    subst hx
    by_cases h : k < 16
    · exact hex_small k h w
    · have hc1 := ih (k / 16) (by omega) (by omega) ((k : Int) / 16) (by omega)
      have hx := hex_one (show k % 16 < 16 by omega)
      unfold hexD at hx
      have hf : baL (hexF (k / 16)) ++ baL [hexC (k % 16)] = baL (hexF k) := by
        rw [ba_append, ← hexF_more h]
      rw [← hx] at hf
      have l1 : (baL (hexF (k / 16))).size ≤ 8 := by rw [baL_size]; exact hexF_len 7 _ (by omega)
      obtain ⟨S1, hS1⟩ : ∃ S, S = baL (hexF (k / 16)) := ⟨_, rfl⟩
      rw [← hS1] at hc1 hf l1
      have HC1 := Lib.hid hc1
      have HF := Lib.hid hf
      have hI : ¬ (k : Int) < 16 := by omega
      have b0 : (0 : Int) ≤ (k : Int) % 16 := by omega
      have b1 : (k : Int) % 16 < 16 := by omega
      have b2 : (k : Int) % 16 ≤ 16 := by omega
      have b3 : (k : Int) % 16 + 1 ≤ 16 := by omega
      have b4 : (0 : Int) ≤ (k : Int) % 16 + 1 := by omega
      have b5 : (k : Int) % 16 ≤ (k : Int) % 16 + 1 := by omega
      have e1 : ((k : Int) % 16).toNat = k % 16 := by omega
      have e2 : ((k : Int) % 16 + 1).toNat = k % 16 + 1 := by omega
      have e3 : IntKind.i64.wrap ((k : Int) % 16 + 1) = (k : Int) % 16 + 1 := IntWalk.i64_in _ (by omega)
      have e4 : (k : Int).tdiv 16 = (k : Int) / 16 := by rw [Int.tdiv_eq_ediv_of_nonneg (by omega)]
      have e5 : (k : Int).tmod 16 = (k : Int) % 16 := by rw [Int.tmod_eq_emod_of_nonneg (by omega)]
      clear hS1 hc1 hf ih h1 h hx
      go_enter Tryd.func14, Tryd.ntmps14
      go_wp2_with fail
      go_quiet ((go_at_call 14; exact Calls.quiet_of (HC1.out _)))
      go_wp2_with fail
      go_ret
      exact ⟨ret_str HF.out, _, rfl⟩
end Go.Proofs.YtgdkmipkgjkjjaaDoor
