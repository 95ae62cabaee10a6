/- The walk of the law CharsBlanks. -/
import Derived.Test.YtgdkmipkgjkjjaaCharsG
namespace Go.Proofs.Ytgdkmipkgjkjjaa
open Go.RowKit
attribute [local go_sem] conv_new1

theorem Bl_two (c : Int) (h0 : 0 ≤ c) (h1 : c < 256) : Bl ((ByteArray.mk #[97] ++ strOfNums [c]).data.toList) 0 = 97 ∧ Bl ((ByteArray.mk #[97] ++ strOfNums [c]).data.toList) 1 = c ∧ (ByteArray.mk #[97] ++ strOfNums [c]).data.toList.length = 2 := by
  have e : (ByteArray.mk #[97] ++ strOfNums [c]).data.toList = [97, UInt8.ofNat c.toNat] := by simp [strOfNums]
  rw [e]
  refine ⟨by unfold Bl; rfl, ?_, rfl⟩
  unfold Bl
  simp
  omega
theorem name_two (c : Int) (h0 : 0 ≤ c) (h1 : c < 128) : nameB (ByteArray.mk #[97] ++ strOfNums [c]).data.toList = partB c := by
  obtain ⟨b0, b1, hl⟩ := Bl_two c h0 (by omega)
  generalize (ByteArray.mk #[97] ++ strOfNums [c]).data.toList = l at *
  have h := nameB_ascii (l := l) (fun i hi => by
    have : i = 0 ∨ i = 1 := by omega
    rcases this with rfl | rfl <;> omega)
  rw [Bool.eq_iff_iff, h, hl, b0]
  constructor
  · rintro ⟨_, _, _, hp⟩
    have := hp 1 (by omega)
    rwa [b1] at this
  · intro hp
    refine ⟨by omega, by omega, by decide +kernel, fun i hi => ?_⟩
    have : i = 0 ∨ i = 1 := by omega
    rcases this with rfl | rfl
    · rw [b0]; decide +kernel
    · rw [b1]; exact hp
theorem classes (c : Int) (h0 : 0 ≤ c) (h1 : c < 256) : ∃ P S B : Bool, partB c = P ∧ startB c = S ∧ blankB c = B ∧
    ((c = 32 ∧ P = false ∧ S = false ∧ B = true) ∨ (c = 9 ∧ P = false ∧ S = false ∧ B = true) ∨ (c = 10 ∧ P = false ∧ S = false ∧ B = true) ∨ (c = 13 ∧ P = false ∧ S = false ∧ B = true) ∨
     (c = 95 ∧ P = true ∧ S = true ∧ B = false) ∨ (c = 45 ∧ P = true ∧ S = false ∧ B = false) ∨ (c = 46 ∧ P = true ∧ S = false ∧ B = false) ∨
     (97 ≤ c ∧ c ≤ 122 ∧ P = true ∧ S = true ∧ B = false) ∨ (65 ≤ c ∧ c ≤ 90 ∧ P = true ∧ S = true ∧ B = false) ∨ (128 ≤ c ∧ P = true ∧ S = true ∧ B = false) ∨
     (48 ≤ c ∧ c ≤ 57 ∧ P = true ∧ S = false ∧ B = false) ∨ ((c == 32) = false ∧ (c == 9) = false ∧ (c == 10) = false ∧ (c == 13) = false ∧ c < 128 ∧ P = false ∧ S = false ∧ B = false)) := by
  obtain ⟨n, rfl⟩ := Int.eq_ofNat_of_zero_le h0
  refine ⟨_, _, _, rfl, rfl, rfl, ?_⟩
  have h : ∀ x : Fin 256, (((x.val : Nat) : Int) = 32 ∧ partB (x.val : Nat) = false ∧ startB (x.val : Nat) = false ∧ blankB (x.val : Nat) = true) ∨ (((x.val : Nat) : Int) = 9 ∧ partB (x.val : Nat) = false ∧ startB (x.val : Nat) = false ∧ blankB (x.val : Nat) = true) ∨ (((x.val : Nat) : Int) = 10 ∧ partB (x.val : Nat) = false ∧ startB (x.val : Nat) = false ∧ blankB (x.val : Nat) = true) ∨ (((x.val : Nat) : Int) = 13 ∧ partB (x.val : Nat) = false ∧ startB (x.val : Nat) = false ∧ blankB (x.val : Nat) = true) ∨
     (((x.val : Nat) : Int) = 95 ∧ partB (x.val : Nat) = true ∧ startB (x.val : Nat) = true ∧ blankB (x.val : Nat) = false) ∨ (((x.val : Nat) : Int) = 45 ∧ partB (x.val : Nat) = true ∧ startB (x.val : Nat) = false ∧ blankB (x.val : Nat) = false) ∨ (((x.val : Nat) : Int) = 46 ∧ partB (x.val : Nat) = true ∧ startB (x.val : Nat) = false ∧ blankB (x.val : Nat) = false) ∨
     (97 ≤ ((x.val : Nat) : Int) ∧ ((x.val : Nat) : Int) ≤ 122 ∧ partB (x.val : Nat) = true ∧ startB (x.val : Nat) = true ∧ blankB (x.val : Nat) = false) ∨ (65 ≤ ((x.val : Nat) : Int) ∧ ((x.val : Nat) : Int) ≤ 90 ∧ partB (x.val : Nat) = true ∧ startB (x.val : Nat) = true ∧ blankB (x.val : Nat) = false) ∨ (128 ≤ ((x.val : Nat) : Int) ∧ partB (x.val : Nat) = true ∧ startB (x.val : Nat) = true ∧ blankB (x.val : Nat) = false) ∨
     (48 ≤ ((x.val : Nat) : Int) ∧ ((x.val : Nat) : Int) ≤ 57 ∧ partB (x.val : Nat) = true ∧ startB (x.val : Nat) = false ∧ blankB (x.val : Nat) = false) ∨ ((((x.val : Nat) : Int) == 32) = false ∧ (((x.val : Nat) : Int) == 9) = false ∧ (((x.val : Nat) : Int) == 10) = false ∧ (((x.val : Nat) : Int) == 13) = false ∧ ((x.val : Nat) : Int) < 128 ∧ partB (x.val : Nat) = false ∧ startB (x.val : Nat) = false ∧ blankB (x.val : Nat) = false) := by decide +kernel
  exact h ⟨n, by omega⟩

set_option maxHeartbeats 4000000 in
theorem blanks_in (a0 : ByteArray) (c : Int) (w0 : a0.size ≤ maxLen) (h0 : 0 ≤ c) (h1 : c < 256) (w : World) :
    Calls Try.prog 7 #[.string a0, .int .u8 c] w fun e w' => e = .returned (.bool true) ∧ Below w.heap.size w w' := by
  unfold maxLen at w0
  have hpt := part_any c h0 h1
  have hst := start_any c h0 h1
  have hbl := blank_any c h0 h1
  have hrn : ∀ w, Calls Try.prog 25 #[.string (ByteArray.mk #[97] ++ strOfNums [c])] w fun e w' => e = .returned (.bool (nameB (ByteArray.mk #[97] ++ strOfNums [c]).data.toList)) ∧ Below w.heap.size w w' := fun w => rname_any _ w (by rw [ByteArray.size_append, strOfNums_size]; show 1 + 1 ≤ maxLen; decide)
  obtain ⟨nv, hnv'⟩ : ∃ nv, nv = nameB (ByteArray.mk #[97] ++ strOfNums [c]).data.toList := ⟨_, rfl⟩
  have hnv : c < 128 → nv = partB c := fun h => by rw [hnv', name_two c h0 h]
  rw [← hnv'] at hrn
  clear hnv'
  by_cases hsz : (30 : Int) < a0.size
  · obtain ⟨P, S, B, hP, hS, hB, hcl⟩ := classes c h0 h1
    rw [hP] at hpt
    rw [hS] at hst
    rw [hB] at hbl
    have Hpt := Lib.hid hpt
    have Hst := Lib.hid hst
    have Hbl := Lib.hid hbl
    clear hpt hst hbl
    have hsz1 := strOfNums_size [c]
    rcases hcl with ⟨rfl, rfl, rfl, rfl⟩ | ⟨rfl, rfl, rfl, rfl⟩ | ⟨rfl, rfl, rfl, rfl⟩ | ⟨rfl, rfl, rfl, rfl⟩ | ⟨rfl, rfl, rfl, rfl⟩ | ⟨rfl, rfl, rfl, rfl⟩ | ⟨rfl, rfl, rfl, rfl⟩ | ⟨c1, c2, rfl, rfl, rfl⟩ | ⟨c1, c2, rfl, rfl, rfl⟩ | ⟨c1, rfl, rfl, rfl⟩ | ⟨c1, c2, rfl, rfl, rfl⟩ | ⟨e1, e2, e3, e4, c2, rfl, rfl, rfl⟩
    · obtain rfl : nv = false := (hnv (by omega)).trans hP
      clear hP hS hB hnv
      have Hrn := Lib.hid hrn
      clear hrn
      go_enter Try.func7, Try.ntmps7
      go_wp2_with fail
      generalize hgen : a0.extract 0 30 = t
      have htn : t.size ≤ 30 := by rw [← hgen]; simp; omega
      clear hgen
      have ht : t.size ≤ maxLen := by unfold maxLen; omega
      have htr := fun w => trim_any t w ht
      have hrtr := fun w => rtrim_any t w ht
      have hem := fun w => empty_any t w ht
      obtain ⟨u, hu⟩ : ∃ u, u = baL (trimL t.data.toList) := ⟨_, rfl⟩
      rw [← hu] at htr hrtr hem
      have Htr := Lib.hid htr
      have Hrtr := Lib.hid hrtr
      have Hem := Lib.hid hem
      clear htr hrtr hem hu
      refine (Hrn.out _).mono ?_
      rintro e w1 ⟨rfl, hb1⟩
      go_wp2_with fail
      refine (chars_awake _).mono ?_
      rintro e w2 ⟨rfl, hb2⟩
      go_wp2_with fail
      refine (Htr.out _).mono ?_
      rintro e w' ⟨rfl, rfl⟩
      go_wp2_with fail
      refine (Hrtr.out _).mono ?_
      rintro e w' ⟨rfl, rfl⟩
      go_wp2_with fail
      refine (Hem.out _).mono ?_
      rintro e w' ⟨rfl, rfl⟩
      go_wp2_with fail
      refine (Hrtr.out _).mono ?_
      rintro e w' ⟨rfl, rfl⟩
      go_wp2_with fail
      refine (Hbl.out _).mono ?_
      rintro e w' ⟨rfl, rfl⟩
      go_wp2_with fail
      refine (Hpt.out _).mono ?_
      rintro e w' ⟨rfl, rfl⟩
      go_wp2_with fail
      refine (Hst.out _).mono ?_
      rintro e w' ⟨rfl, rfl⟩
      go_wp2_with fail
      go_ret
      exact ⟨by first | rfl | (exact ret_bool (by simp <;> omega)), ((Below.refl _ _).alloc (Nat.le_refl _) _).trans ((hb1.mono (by simp)).trans (hb2.mono (Nat.le_trans (by simp) hb1.size)))⟩
    · obtain rfl : nv = false := (hnv (by omega)).trans hP
      clear hP hS hB hnv
      have Hrn := Lib.hid hrn
      clear hrn
      go_enter Try.func7, Try.ntmps7
      go_wp2_with fail
      generalize hgen : a0.extract 0 30 = t
      have htn : t.size ≤ 30 := by rw [← hgen]; simp; omega
      clear hgen
      have ht : t.size ≤ maxLen := by unfold maxLen; omega
      have htr := fun w => trim_any t w ht
      have hrtr := fun w => rtrim_any t w ht
      have hem := fun w => empty_any t w ht
      obtain ⟨u, hu⟩ : ∃ u, u = baL (trimL t.data.toList) := ⟨_, rfl⟩
      rw [← hu] at htr hrtr hem
      have Htr := Lib.hid htr
      have Hrtr := Lib.hid hrtr
      have Hem := Lib.hid hem
      clear htr hrtr hem hu
      refine (Hrn.out _).mono ?_
      rintro e w1 ⟨rfl, hb1⟩
      go_wp2_with fail
      refine (chars_awake _).mono ?_
      rintro e w2 ⟨rfl, hb2⟩
      go_wp2_with fail
      refine (Htr.out _).mono ?_
      rintro e w' ⟨rfl, rfl⟩
      go_wp2_with fail
      refine (Hrtr.out _).mono ?_
      rintro e w' ⟨rfl, rfl⟩
      go_wp2_with fail
      refine (Hem.out _).mono ?_
      rintro e w' ⟨rfl, rfl⟩
      go_wp2_with fail
      refine (Hrtr.out _).mono ?_
      rintro e w' ⟨rfl, rfl⟩
      go_wp2_with fail
      refine (Hbl.out _).mono ?_
      rintro e w' ⟨rfl, rfl⟩
      go_wp2_with fail
      refine (Hpt.out _).mono ?_
      rintro e w' ⟨rfl, rfl⟩
      go_wp2_with fail
      refine (Hst.out _).mono ?_
      rintro e w' ⟨rfl, rfl⟩
      go_wp2_with fail
      go_ret
      exact ⟨by first | rfl | (exact ret_bool (by simp <;> omega)), ((Below.refl _ _).alloc (Nat.le_refl _) _).trans ((hb1.mono (by simp)).trans (hb2.mono (Nat.le_trans (by simp) hb1.size)))⟩
    · obtain rfl : nv = false := (hnv (by omega)).trans hP
      clear hP hS hB hnv
      have Hrn := Lib.hid hrn
      clear hrn
      go_enter Try.func7, Try.ntmps7
      go_wp2_with fail
      generalize hgen : a0.extract 0 30 = t
      have htn : t.size ≤ 30 := by rw [← hgen]; simp; omega
      clear hgen
      have ht : t.size ≤ maxLen := by unfold maxLen; omega
      have htr := fun w => trim_any t w ht
      have hrtr := fun w => rtrim_any t w ht
      have hem := fun w => empty_any t w ht
      obtain ⟨u, hu⟩ : ∃ u, u = baL (trimL t.data.toList) := ⟨_, rfl⟩
      rw [← hu] at htr hrtr hem
      have Htr := Lib.hid htr
      have Hrtr := Lib.hid hrtr
      have Hem := Lib.hid hem
      clear htr hrtr hem hu
      refine (Hrn.out _).mono ?_
      rintro e w1 ⟨rfl, hb1⟩
      go_wp2_with fail
      refine (chars_awake _).mono ?_
      rintro e w2 ⟨rfl, hb2⟩
      go_wp2_with fail
      refine (Htr.out _).mono ?_
      rintro e w' ⟨rfl, rfl⟩
      go_wp2_with fail
      refine (Hrtr.out _).mono ?_
      rintro e w' ⟨rfl, rfl⟩
      go_wp2_with fail
      refine (Hem.out _).mono ?_
      rintro e w' ⟨rfl, rfl⟩
      go_wp2_with fail
      refine (Hrtr.out _).mono ?_
      rintro e w' ⟨rfl, rfl⟩
      go_wp2_with fail
      refine (Hbl.out _).mono ?_
      rintro e w' ⟨rfl, rfl⟩
      go_wp2_with fail
      refine (Hpt.out _).mono ?_
      rintro e w' ⟨rfl, rfl⟩
      go_wp2_with fail
      refine (Hst.out _).mono ?_
      rintro e w' ⟨rfl, rfl⟩
      go_wp2_with fail
      go_ret
      exact ⟨by first | rfl | (exact ret_bool (by simp <;> omega)), ((Below.refl _ _).alloc (Nat.le_refl _) _).trans ((hb1.mono (by simp)).trans (hb2.mono (Nat.le_trans (by simp) hb1.size)))⟩
    · obtain rfl : nv = false := (hnv (by omega)).trans hP
      clear hP hS hB hnv
      have Hrn := Lib.hid hrn
      clear hrn
      go_enter Try.func7, Try.ntmps7
      go_wp2_with fail
      generalize hgen : a0.extract 0 30 = t
      have htn : t.size ≤ 30 := by rw [← hgen]; simp; omega
      clear hgen
      have ht : t.size ≤ maxLen := by unfold maxLen; omega
      have htr := fun w => trim_any t w ht
      have hrtr := fun w => rtrim_any t w ht
      have hem := fun w => empty_any t w ht
      obtain ⟨u, hu⟩ : ∃ u, u = baL (trimL t.data.toList) := ⟨_, rfl⟩
      rw [← hu] at htr hrtr hem
      have Htr := Lib.hid htr
      have Hrtr := Lib.hid hrtr
      have Hem := Lib.hid hem
      clear htr hrtr hem hu
      refine (Hrn.out _).mono ?_
      rintro e w1 ⟨rfl, hb1⟩
      go_wp2_with fail
      refine (chars_awake _).mono ?_
      rintro e w2 ⟨rfl, hb2⟩
      go_wp2_with fail
      refine (Htr.out _).mono ?_
      rintro e w' ⟨rfl, rfl⟩
      go_wp2_with fail
      refine (Hrtr.out _).mono ?_
      rintro e w' ⟨rfl, rfl⟩
      go_wp2_with fail
      refine (Hem.out _).mono ?_
      rintro e w' ⟨rfl, rfl⟩
      go_wp2_with fail
      refine (Hrtr.out _).mono ?_
      rintro e w' ⟨rfl, rfl⟩
      go_wp2_with fail
      refine (Hbl.out _).mono ?_
      rintro e w' ⟨rfl, rfl⟩
      go_wp2_with fail
      refine (Hpt.out _).mono ?_
      rintro e w' ⟨rfl, rfl⟩
      go_wp2_with fail
      refine (Hst.out _).mono ?_
      rintro e w' ⟨rfl, rfl⟩
      go_wp2_with fail
      go_ret
      exact ⟨by first | rfl | (exact ret_bool (by simp <;> omega)), ((Below.refl _ _).alloc (Nat.le_refl _) _).trans ((hb1.mono (by simp)).trans (hb2.mono (Nat.le_trans (by simp) hb1.size)))⟩
    · obtain rfl : nv = true := (hnv (by omega)).trans hP
      clear hP hS hB hnv
      have Hrn := Lib.hid hrn
      clear hrn
      go_enter Try.func7, Try.ntmps7
      go_wp2_with fail
      generalize hgen : a0.extract 0 30 = t
      have htn : t.size ≤ 30 := by rw [← hgen]; simp; omega
      clear hgen
      have ht : t.size ≤ maxLen := by unfold maxLen; omega
      have htr := fun w => trim_any t w ht
      have hrtr := fun w => rtrim_any t w ht
      have hem := fun w => empty_any t w ht
      obtain ⟨u, hu⟩ : ∃ u, u = baL (trimL t.data.toList) := ⟨_, rfl⟩
      rw [← hu] at htr hrtr hem
      have Htr := Lib.hid htr
      have Hrtr := Lib.hid hrtr
      have Hem := Lib.hid hem
      clear htr hrtr hem hu
      refine (Hrn.out _).mono ?_
      rintro e w1 ⟨rfl, hb1⟩
      go_wp2_with fail
      refine (chars_awake _).mono ?_
      rintro e w2 ⟨rfl, hb2⟩
      go_wp2_with fail
      refine (Htr.out _).mono ?_
      rintro e w' ⟨rfl, rfl⟩
      go_wp2_with fail
      refine (Hrtr.out _).mono ?_
      rintro e w' ⟨rfl, rfl⟩
      go_wp2_with fail
      refine (Hem.out _).mono ?_
      rintro e w' ⟨rfl, rfl⟩
      go_wp2_with fail
      refine (Hrtr.out _).mono ?_
      rintro e w' ⟨rfl, rfl⟩
      go_wp2_with fail
      refine (Hbl.out _).mono ?_
      rintro e w' ⟨rfl, rfl⟩
      go_wp2_with fail
      refine (Hpt.out _).mono ?_
      rintro e w' ⟨rfl, rfl⟩
      go_wp2_with fail
      refine (Hst.out _).mono ?_
      rintro e w' ⟨rfl, rfl⟩
      go_wp2_with fail
      go_ret
      exact ⟨by first | rfl | (exact ret_bool (by simp <;> omega)), ((Below.refl _ _).alloc (Nat.le_refl _) _).trans ((hb1.mono (by simp)).trans (hb2.mono (Nat.le_trans (by simp) hb1.size)))⟩
    · obtain rfl : nv = true := (hnv (by omega)).trans hP
      clear hP hS hB hnv
      have Hrn := Lib.hid hrn
      clear hrn
      go_enter Try.func7, Try.ntmps7
      go_wp2_with fail
      generalize hgen : a0.extract 0 30 = t
      have htn : t.size ≤ 30 := by rw [← hgen]; simp; omega
      clear hgen
      have ht : t.size ≤ maxLen := by unfold maxLen; omega
      have htr := fun w => trim_any t w ht
      have hrtr := fun w => rtrim_any t w ht
      have hem := fun w => empty_any t w ht
      obtain ⟨u, hu⟩ : ∃ u, u = baL (trimL t.data.toList) := ⟨_, rfl⟩
      rw [← hu] at htr hrtr hem
      have Htr := Lib.hid htr
      have Hrtr := Lib.hid hrtr
      have Hem := Lib.hid hem
      clear htr hrtr hem hu
      refine (Hrn.out _).mono ?_
      rintro e w1 ⟨rfl, hb1⟩
      go_wp2_with fail
      refine (chars_awake _).mono ?_
      rintro e w2 ⟨rfl, hb2⟩
      go_wp2_with fail
      refine (Htr.out _).mono ?_
      rintro e w' ⟨rfl, rfl⟩
      go_wp2_with fail
      refine (Hrtr.out _).mono ?_
      rintro e w' ⟨rfl, rfl⟩
      go_wp2_with fail
      refine (Hem.out _).mono ?_
      rintro e w' ⟨rfl, rfl⟩
      go_wp2_with fail
      refine (Hrtr.out _).mono ?_
      rintro e w' ⟨rfl, rfl⟩
      go_wp2_with fail
      refine (Hbl.out _).mono ?_
      rintro e w' ⟨rfl, rfl⟩
      go_wp2_with fail
      refine (Hpt.out _).mono ?_
      rintro e w' ⟨rfl, rfl⟩
      go_wp2_with fail
      refine (Hst.out _).mono ?_
      rintro e w' ⟨rfl, rfl⟩
      go_wp2_with fail
      go_ret
      exact ⟨by first | rfl | (exact ret_bool (by simp <;> omega)), ((Below.refl _ _).alloc (Nat.le_refl _) _).trans ((hb1.mono (by simp)).trans (hb2.mono (Nat.le_trans (by simp) hb1.size)))⟩
    · obtain rfl : nv = true := (hnv (by omega)).trans hP
      clear hP hS hB hnv
      have Hrn := Lib.hid hrn
      clear hrn
      go_enter Try.func7, Try.ntmps7
      go_wp2_with fail
      generalize hgen : a0.extract 0 30 = t
      have htn : t.size ≤ 30 := by rw [← hgen]; simp; omega
      clear hgen
      have ht : t.size ≤ maxLen := by unfold maxLen; omega
      have htr := fun w => trim_any t w ht
      have hrtr := fun w => rtrim_any t w ht
      have hem := fun w => empty_any t w ht
      obtain ⟨u, hu⟩ : ∃ u, u = baL (trimL t.data.toList) := ⟨_, rfl⟩
      rw [← hu] at htr hrtr hem
      have Htr := Lib.hid htr
      have Hrtr := Lib.hid hrtr
      have Hem := Lib.hid hem
      clear htr hrtr hem hu
      refine (Hrn.out _).mono ?_
      rintro e w1 ⟨rfl, hb1⟩
      go_wp2_with fail
      refine (chars_awake _).mono ?_
      rintro e w2 ⟨rfl, hb2⟩
      go_wp2_with fail
      refine (Htr.out _).mono ?_
      rintro e w' ⟨rfl, rfl⟩
      go_wp2_with fail
      refine (Hrtr.out _).mono ?_
      rintro e w' ⟨rfl, rfl⟩
      go_wp2_with fail
      refine (Hem.out _).mono ?_
      rintro e w' ⟨rfl, rfl⟩
      go_wp2_with fail
      refine (Hrtr.out _).mono ?_
      rintro e w' ⟨rfl, rfl⟩
      go_wp2_with fail
      refine (Hbl.out _).mono ?_
      rintro e w' ⟨rfl, rfl⟩
      go_wp2_with fail
      refine (Hpt.out _).mono ?_
      rintro e w' ⟨rfl, rfl⟩
      go_wp2_with fail
      refine (Hst.out _).mono ?_
      rintro e w' ⟨rfl, rfl⟩
      go_wp2_with fail
      go_ret
      exact ⟨by first | rfl | (exact ret_bool (by simp <;> omega)), ((Below.refl _ _).alloc (Nat.le_refl _) _).trans ((hb1.mono (by simp)).trans (hb2.mono (Nat.le_trans (by simp) hb1.size)))⟩
    · obtain rfl : nv = true := (hnv (by omega)).trans hP
      clear hP hS hB hnv
      have Hrn := Lib.hid hrn
      clear hrn
      go_enter Try.func7, Try.ntmps7
      go_wp2_with fail
      generalize hgen : a0.extract 0 30 = t
      have htn : t.size ≤ 30 := by rw [← hgen]; simp; omega
      clear hgen
      have ht : t.size ≤ maxLen := by unfold maxLen; omega
      have htr := fun w => trim_any t w ht
      have hrtr := fun w => rtrim_any t w ht
      have hem := fun w => empty_any t w ht
      obtain ⟨u, hu⟩ : ∃ u, u = baL (trimL t.data.toList) := ⟨_, rfl⟩
      rw [← hu] at htr hrtr hem
      have Htr := Lib.hid htr
      have Hrtr := Lib.hid hrtr
      have Hem := Lib.hid hem
      clear htr hrtr hem hu
      refine (Hrn.out _).mono ?_
      rintro e w1 ⟨rfl, hb1⟩
      go_wp2_with fail
      refine (chars_awake _).mono ?_
      rintro e w2 ⟨rfl, hb2⟩
      go_wp2_with fail
      refine (Htr.out _).mono ?_
      rintro e w' ⟨rfl, rfl⟩
      go_wp2_with fail
      refine (Hrtr.out _).mono ?_
      rintro e w' ⟨rfl, rfl⟩
      go_wp2_with fail
      refine (Hem.out _).mono ?_
      rintro e w' ⟨rfl, rfl⟩
      go_wp2_with fail
      refine (Hrtr.out _).mono ?_
      rintro e w' ⟨rfl, rfl⟩
      go_wp2_with fail
      refine (Hbl.out _).mono ?_
      rintro e w' ⟨rfl, rfl⟩
      go_wp2_with fail
      refine (Hpt.out _).mono ?_
      rintro e w' ⟨rfl, rfl⟩
      go_wp2_with fail
      refine (Hst.out _).mono ?_
      rintro e w' ⟨rfl, rfl⟩
      go_wp2_with fail
      go_ret
      exact ⟨by first | rfl | (exact ret_bool (by simp <;> omega)), ((Below.refl _ _).alloc (Nat.le_refl _) _).trans ((hb1.mono (by simp)).trans (hb2.mono (Nat.le_trans (by simp) hb1.size)))⟩
    · obtain rfl : nv = true := (hnv (by omega)).trans hP
      clear hP hS hB hnv
      have Hrn := Lib.hid hrn
      clear hrn
      go_enter Try.func7, Try.ntmps7
      go_wp2_with fail
      generalize hgen : a0.extract 0 30 = t
      have htn : t.size ≤ 30 := by rw [← hgen]; simp; omega
      clear hgen
      have ht : t.size ≤ maxLen := by unfold maxLen; omega
      have htr := fun w => trim_any t w ht
      have hrtr := fun w => rtrim_any t w ht
      have hem := fun w => empty_any t w ht
      obtain ⟨u, hu⟩ : ∃ u, u = baL (trimL t.data.toList) := ⟨_, rfl⟩
      rw [← hu] at htr hrtr hem
      have Htr := Lib.hid htr
      have Hrtr := Lib.hid hrtr
      have Hem := Lib.hid hem
      clear htr hrtr hem hu
      refine (Hrn.out _).mono ?_
      rintro e w1 ⟨rfl, hb1⟩
      go_wp2_with fail
      refine (chars_awake _).mono ?_
      rintro e w2 ⟨rfl, hb2⟩
      go_wp2_with fail
      refine (Htr.out _).mono ?_
      rintro e w' ⟨rfl, rfl⟩
      go_wp2_with fail
      refine (Hrtr.out _).mono ?_
      rintro e w' ⟨rfl, rfl⟩
      go_wp2_with fail
      refine (Hem.out _).mono ?_
      rintro e w' ⟨rfl, rfl⟩
      go_wp2_with fail
      refine (Hrtr.out _).mono ?_
      rintro e w' ⟨rfl, rfl⟩
      go_wp2_with fail
      refine (Hbl.out _).mono ?_
      rintro e w' ⟨rfl, rfl⟩
      go_wp2_with fail
      refine (Hpt.out _).mono ?_
      rintro e w' ⟨rfl, rfl⟩
      go_wp2_with fail
      refine (Hst.out _).mono ?_
      rintro e w' ⟨rfl, rfl⟩
      go_wp2_with fail
      go_ret
      exact ⟨by first | rfl | (exact ret_bool (by simp <;> omega)), ((Below.refl _ _).alloc (Nat.le_refl _) _).trans ((hb1.mono (by simp)).trans (hb2.mono (Nat.le_trans (by simp) hb1.size)))⟩
    · clear hP hS hB hnv
      have Hrn := Lib.hid hrn
      clear hrn
      cases nv
      all_goals
        go_enter Try.func7, Try.ntmps7
        go_wp2_with fail
        generalize hgen : a0.extract 0 30 = t
        have htn : t.size ≤ 30 := by rw [← hgen]; simp; omega
        clear hgen
        have ht : t.size ≤ maxLen := by unfold maxLen; omega
        have htr := fun w => trim_any t w ht
        have hrtr := fun w => rtrim_any t w ht
        have hem := fun w => empty_any t w ht
        obtain ⟨u, hu⟩ : ∃ u, u = baL (trimL t.data.toList) := ⟨_, rfl⟩
        rw [← hu] at htr hrtr hem
        have Htr := Lib.hid htr
        have Hrtr := Lib.hid hrtr
        have Hem := Lib.hid hem
        clear htr hrtr hem hu
        refine (Hrn.out _).mono ?_
        rintro e w1 ⟨rfl, hb1⟩
        go_wp2_with fail
        refine (chars_awake _).mono ?_
        rintro e w2 ⟨rfl, hb2⟩
        go_wp2_with fail
        refine (Htr.out _).mono ?_
        rintro e w' ⟨rfl, rfl⟩
        go_wp2_with fail
        refine (Hrtr.out _).mono ?_
        rintro e w' ⟨rfl, rfl⟩
        go_wp2_with fail
        refine (Hem.out _).mono ?_
        rintro e w' ⟨rfl, rfl⟩
        go_wp2_with fail
        refine (Hrtr.out _).mono ?_
        rintro e w' ⟨rfl, rfl⟩
        go_wp2_with fail
        refine (Hbl.out _).mono ?_
        rintro e w' ⟨rfl, rfl⟩
        go_wp2_with fail
        refine (Hpt.out _).mono ?_
        rintro e w' ⟨rfl, rfl⟩
        go_wp2_with fail
        refine (Hst.out _).mono ?_
        rintro e w' ⟨rfl, rfl⟩
        go_wp2_with fail
        go_ret
        exact ⟨by first | rfl | (exact ret_bool (by simp <;> omega)), ((Below.refl _ _).alloc (Nat.le_refl _) _).trans ((hb1.mono (by simp)).trans (hb2.mono (Nat.le_trans (by simp) hb1.size)))⟩
    · obtain rfl : nv = true := (hnv (by omega)).trans hP
      clear hP hS hB hnv
      have Hrn := Lib.hid hrn
      clear hrn
      go_enter Try.func7, Try.ntmps7
      go_wp2_with fail
      generalize hgen : a0.extract 0 30 = t
      have htn : t.size ≤ 30 := by rw [← hgen]; simp; omega
      clear hgen
      have ht : t.size ≤ maxLen := by unfold maxLen; omega
      have htr := fun w => trim_any t w ht
      have hrtr := fun w => rtrim_any t w ht
      have hem := fun w => empty_any t w ht
      obtain ⟨u, hu⟩ : ∃ u, u = baL (trimL t.data.toList) := ⟨_, rfl⟩
      rw [← hu] at htr hrtr hem
      have Htr := Lib.hid htr
      have Hrtr := Lib.hid hrtr
      have Hem := Lib.hid hem
      clear htr hrtr hem hu
      refine (Hrn.out _).mono ?_
      rintro e w1 ⟨rfl, hb1⟩
      go_wp2_with fail
      refine (chars_awake _).mono ?_
      rintro e w2 ⟨rfl, hb2⟩
      go_wp2_with fail
      refine (Htr.out _).mono ?_
      rintro e w' ⟨rfl, rfl⟩
      go_wp2_with fail
      refine (Hrtr.out _).mono ?_
      rintro e w' ⟨rfl, rfl⟩
      go_wp2_with fail
      refine (Hem.out _).mono ?_
      rintro e w' ⟨rfl, rfl⟩
      go_wp2_with fail
      refine (Hrtr.out _).mono ?_
      rintro e w' ⟨rfl, rfl⟩
      go_wp2_with fail
      refine (Hbl.out _).mono ?_
      rintro e w' ⟨rfl, rfl⟩
      go_wp2_with fail
      refine (Hpt.out _).mono ?_
      rintro e w' ⟨rfl, rfl⟩
      go_wp2_with fail
      refine (Hst.out _).mono ?_
      rintro e w' ⟨rfl, rfl⟩
      go_wp2_with fail
      go_ret
      exact ⟨by first | rfl | (exact ret_bool (by simp <;> omega)), ((Below.refl _ _).alloc (Nat.le_refl _) _).trans ((hb1.mono (by simp)).trans (hb2.mono (Nat.le_trans (by simp) hb1.size)))⟩
    · obtain rfl : nv = false := (hnv (by omega)).trans hP
      clear hP hS hB hnv
      have Hrn := Lib.hid hrn
      clear hrn
      go_enter Try.func7, Try.ntmps7
      go_wp2_with fail
      generalize hgen : a0.extract 0 30 = t
      have htn : t.size ≤ 30 := by rw [← hgen]; simp; omega
      clear hgen
      have ht : t.size ≤ maxLen := by unfold maxLen; omega
      have htr := fun w => trim_any t w ht
      have hrtr := fun w => rtrim_any t w ht
      have hem := fun w => empty_any t w ht
      obtain ⟨u, hu⟩ : ∃ u, u = baL (trimL t.data.toList) := ⟨_, rfl⟩
      rw [← hu] at htr hrtr hem
      have Htr := Lib.hid htr
      have Hrtr := Lib.hid hrtr
      have Hem := Lib.hid hem
      clear htr hrtr hem hu
      refine (Hrn.out _).mono ?_
      rintro e w1 ⟨rfl, hb1⟩
      go_wp2_with fail
      refine (chars_awake _).mono ?_
      rintro e w2 ⟨rfl, hb2⟩
      go_wp2_with fail
      refine (Htr.out _).mono ?_
      rintro e w' ⟨rfl, rfl⟩
      go_wp2_with fail
      refine (Hrtr.out _).mono ?_
      rintro e w' ⟨rfl, rfl⟩
      go_wp2_with fail
      refine (Hem.out _).mono ?_
      rintro e w' ⟨rfl, rfl⟩
      go_wp2_with fail
      refine (Hrtr.out _).mono ?_
      rintro e w' ⟨rfl, rfl⟩
      go_wp2_with fail
      refine (Hbl.out _).mono ?_
      rintro e w' ⟨rfl, rfl⟩
      go_wp2_with fail
      refine (Hpt.out _).mono ?_
      rintro e w' ⟨rfl, rfl⟩
      go_wp2_with fail
      refine (Hst.out _).mono ?_
      rintro e w' ⟨rfl, rfl⟩
      go_wp2_with fail
      go_ret
      exact ⟨by first | rfl | (exact ret_bool (by simp <;> omega)), ((Below.refl _ _).alloc (Nat.le_refl _) _).trans ((hb1.mono (by simp)).trans (hb2.mono (Nat.le_trans (by simp) hb1.size)))⟩
  · have htn : a0.size ≤ 30 := by omega
    have ht : a0.size ≤ maxLen := by unfold maxLen; omega
    have htr := fun w => trim_any a0 w ht
    have hrtr := fun w => rtrim_any a0 w ht
    have hem := fun w => empty_any a0 w ht
    obtain ⟨u, hu⟩ : ∃ u, u = baL (trimL a0.data.toList) := ⟨_, rfl⟩
    rw [← hu] at htr hrtr hem
    have Htr := Lib.hid htr
    have Hrtr := Lib.hid hrtr
    have Hem := Lib.hid hem
    clear htr hrtr hem hu
    obtain ⟨P, S, B, hP, hS, hB, hcl⟩ := classes c h0 h1
    rw [hP] at hpt
    rw [hS] at hst
    rw [hB] at hbl
    have Hpt := Lib.hid hpt
    have Hst := Lib.hid hst
    have Hbl := Lib.hid hbl
    clear hpt hst hbl
    have hsz1 := strOfNums_size [c]
    rcases hcl with ⟨rfl, rfl, rfl, rfl⟩ | ⟨rfl, rfl, rfl, rfl⟩ | ⟨rfl, rfl, rfl, rfl⟩ | ⟨rfl, rfl, rfl, rfl⟩ | ⟨rfl, rfl, rfl, rfl⟩ | ⟨rfl, rfl, rfl, rfl⟩ | ⟨rfl, rfl, rfl, rfl⟩ | ⟨c1, c2, rfl, rfl, rfl⟩ | ⟨c1, c2, rfl, rfl, rfl⟩ | ⟨c1, rfl, rfl, rfl⟩ | ⟨c1, c2, rfl, rfl, rfl⟩ | ⟨e1, e2, e3, e4, c2, rfl, rfl, rfl⟩
    · obtain rfl : nv = false := (hnv (by omega)).trans hP
      clear hP hS hB hnv
      have Hrn := Lib.hid hrn
      clear hrn
      go_enter Try.func7, Try.ntmps7
      go_wp2_with fail
      refine (Hrn.out _).mono ?_
      rintro e w1 ⟨rfl, hb1⟩
      go_wp2_with fail
      refine (chars_awake _).mono ?_
      rintro e w2 ⟨rfl, hb2⟩
      go_wp2_with fail
      refine (Htr.out _).mono ?_
      rintro e w' ⟨rfl, rfl⟩
      go_wp2_with fail
      refine (Hrtr.out _).mono ?_
      rintro e w' ⟨rfl, rfl⟩
      go_wp2_with fail
      refine (Hem.out _).mono ?_
      rintro e w' ⟨rfl, rfl⟩
      go_wp2_with fail
      refine (Hrtr.out _).mono ?_
      rintro e w' ⟨rfl, rfl⟩
      go_wp2_with fail
      refine (Hbl.out _).mono ?_
      rintro e w' ⟨rfl, rfl⟩
      go_wp2_with fail
      refine (Hpt.out _).mono ?_
      rintro e w' ⟨rfl, rfl⟩
      go_wp2_with fail
      refine (Hst.out _).mono ?_
      rintro e w' ⟨rfl, rfl⟩
      go_wp2_with fail
      go_ret
      exact ⟨by first | rfl | (exact ret_bool (by simp <;> omega)), ((Below.refl _ _).alloc (Nat.le_refl _) _).trans ((hb1.mono (by simp)).trans (hb2.mono (Nat.le_trans (by simp) hb1.size)))⟩
    · obtain rfl : nv = false := (hnv (by omega)).trans hP
      clear hP hS hB hnv
      have Hrn := Lib.hid hrn
      clear hrn
      go_enter Try.func7, Try.ntmps7
      go_wp2_with fail
      refine (Hrn.out _).mono ?_
      rintro e w1 ⟨rfl, hb1⟩
      go_wp2_with fail
      refine (chars_awake _).mono ?_
      rintro e w2 ⟨rfl, hb2⟩
      go_wp2_with fail
      refine (Htr.out _).mono ?_
      rintro e w' ⟨rfl, rfl⟩
      go_wp2_with fail
      refine (Hrtr.out _).mono ?_
      rintro e w' ⟨rfl, rfl⟩
      go_wp2_with fail
      refine (Hem.out _).mono ?_
      rintro e w' ⟨rfl, rfl⟩
      go_wp2_with fail
      refine (Hrtr.out _).mono ?_
      rintro e w' ⟨rfl, rfl⟩
      go_wp2_with fail
      refine (Hbl.out _).mono ?_
      rintro e w' ⟨rfl, rfl⟩
      go_wp2_with fail
      refine (Hpt.out _).mono ?_
      rintro e w' ⟨rfl, rfl⟩
      go_wp2_with fail
      refine (Hst.out _).mono ?_
      rintro e w' ⟨rfl, rfl⟩
      go_wp2_with fail
      go_ret
      exact ⟨by first | rfl | (exact ret_bool (by simp <;> omega)), ((Below.refl _ _).alloc (Nat.le_refl _) _).trans ((hb1.mono (by simp)).trans (hb2.mono (Nat.le_trans (by simp) hb1.size)))⟩
    · obtain rfl : nv = false := (hnv (by omega)).trans hP
      clear hP hS hB hnv
      have Hrn := Lib.hid hrn
      clear hrn
      go_enter Try.func7, Try.ntmps7
      go_wp2_with fail
      refine (Hrn.out _).mono ?_
      rintro e w1 ⟨rfl, hb1⟩
      go_wp2_with fail
      refine (chars_awake _).mono ?_
      rintro e w2 ⟨rfl, hb2⟩
      go_wp2_with fail
      refine (Htr.out _).mono ?_
      rintro e w' ⟨rfl, rfl⟩
      go_wp2_with fail
      refine (Hrtr.out _).mono ?_
      rintro e w' ⟨rfl, rfl⟩
      go_wp2_with fail
      refine (Hem.out _).mono ?_
      rintro e w' ⟨rfl, rfl⟩
      go_wp2_with fail
      refine (Hrtr.out _).mono ?_
      rintro e w' ⟨rfl, rfl⟩
      go_wp2_with fail
      refine (Hbl.out _).mono ?_
      rintro e w' ⟨rfl, rfl⟩
      go_wp2_with fail
      refine (Hpt.out _).mono ?_
      rintro e w' ⟨rfl, rfl⟩
      go_wp2_with fail
      refine (Hst.out _).mono ?_
      rintro e w' ⟨rfl, rfl⟩
      go_wp2_with fail
      go_ret
      exact ⟨by first | rfl | (exact ret_bool (by simp <;> omega)), ((Below.refl _ _).alloc (Nat.le_refl _) _).trans ((hb1.mono (by simp)).trans (hb2.mono (Nat.le_trans (by simp) hb1.size)))⟩
    · obtain rfl : nv = false := (hnv (by omega)).trans hP
      clear hP hS hB hnv
      have Hrn := Lib.hid hrn
      clear hrn
      go_enter Try.func7, Try.ntmps7
      go_wp2_with fail
      refine (Hrn.out _).mono ?_
      rintro e w1 ⟨rfl, hb1⟩
      go_wp2_with fail
      refine (chars_awake _).mono ?_
      rintro e w2 ⟨rfl, hb2⟩
      go_wp2_with fail
      refine (Htr.out _).mono ?_
      rintro e w' ⟨rfl, rfl⟩
      go_wp2_with fail
      refine (Hrtr.out _).mono ?_
      rintro e w' ⟨rfl, rfl⟩
      go_wp2_with fail
      refine (Hem.out _).mono ?_
      rintro e w' ⟨rfl, rfl⟩
      go_wp2_with fail
      refine (Hrtr.out _).mono ?_
      rintro e w' ⟨rfl, rfl⟩
      go_wp2_with fail
      refine (Hbl.out _).mono ?_
      rintro e w' ⟨rfl, rfl⟩
      go_wp2_with fail
      refine (Hpt.out _).mono ?_
      rintro e w' ⟨rfl, rfl⟩
      go_wp2_with fail
      refine (Hst.out _).mono ?_
      rintro e w' ⟨rfl, rfl⟩
      go_wp2_with fail
      go_ret
      exact ⟨by first | rfl | (exact ret_bool (by simp <;> omega)), ((Below.refl _ _).alloc (Nat.le_refl _) _).trans ((hb1.mono (by simp)).trans (hb2.mono (Nat.le_trans (by simp) hb1.size)))⟩
    · obtain rfl : nv = true := (hnv (by omega)).trans hP
      clear hP hS hB hnv
      have Hrn := Lib.hid hrn
      clear hrn
      go_enter Try.func7, Try.ntmps7
      go_wp2_with fail
      refine (Hrn.out _).mono ?_
      rintro e w1 ⟨rfl, hb1⟩
      go_wp2_with fail
      refine (chars_awake _).mono ?_
      rintro e w2 ⟨rfl, hb2⟩
      go_wp2_with fail
      refine (Htr.out _).mono ?_
      rintro e w' ⟨rfl, rfl⟩
      go_wp2_with fail
      refine (Hrtr.out _).mono ?_
      rintro e w' ⟨rfl, rfl⟩
      go_wp2_with fail
      refine (Hem.out _).mono ?_
      rintro e w' ⟨rfl, rfl⟩
      go_wp2_with fail
      refine (Hrtr.out _).mono ?_
      rintro e w' ⟨rfl, rfl⟩
      go_wp2_with fail
      refine (Hbl.out _).mono ?_
      rintro e w' ⟨rfl, rfl⟩
      go_wp2_with fail
      refine (Hpt.out _).mono ?_
      rintro e w' ⟨rfl, rfl⟩
      go_wp2_with fail
      refine (Hst.out _).mono ?_
      rintro e w' ⟨rfl, rfl⟩
      go_wp2_with fail
      go_ret
      exact ⟨by first | rfl | (exact ret_bool (by simp <;> omega)), ((Below.refl _ _).alloc (Nat.le_refl _) _).trans ((hb1.mono (by simp)).trans (hb2.mono (Nat.le_trans (by simp) hb1.size)))⟩
    · obtain rfl : nv = true := (hnv (by omega)).trans hP
      clear hP hS hB hnv
      have Hrn := Lib.hid hrn
      clear hrn
      go_enter Try.func7, Try.ntmps7
      go_wp2_with fail
      refine (Hrn.out _).mono ?_
      rintro e w1 ⟨rfl, hb1⟩
      go_wp2_with fail
      refine (chars_awake _).mono ?_
      rintro e w2 ⟨rfl, hb2⟩
      go_wp2_with fail
      refine (Htr.out _).mono ?_
      rintro e w' ⟨rfl, rfl⟩
      go_wp2_with fail
      refine (Hrtr.out _).mono ?_
      rintro e w' ⟨rfl, rfl⟩
      go_wp2_with fail
      refine (Hem.out _).mono ?_
      rintro e w' ⟨rfl, rfl⟩
      go_wp2_with fail
      refine (Hrtr.out _).mono ?_
      rintro e w' ⟨rfl, rfl⟩
      go_wp2_with fail
      refine (Hbl.out _).mono ?_
      rintro e w' ⟨rfl, rfl⟩
      go_wp2_with fail
      refine (Hpt.out _).mono ?_
      rintro e w' ⟨rfl, rfl⟩
      go_wp2_with fail
      refine (Hst.out _).mono ?_
      rintro e w' ⟨rfl, rfl⟩
      go_wp2_with fail
      go_ret
      exact ⟨by first | rfl | (exact ret_bool (by simp <;> omega)), ((Below.refl _ _).alloc (Nat.le_refl _) _).trans ((hb1.mono (by simp)).trans (hb2.mono (Nat.le_trans (by simp) hb1.size)))⟩
    · obtain rfl : nv = true := (hnv (by omega)).trans hP
      clear hP hS hB hnv
      have Hrn := Lib.hid hrn
      clear hrn
      go_enter Try.func7, Try.ntmps7
      go_wp2_with fail
      refine (Hrn.out _).mono ?_
      rintro e w1 ⟨rfl, hb1⟩
      go_wp2_with fail
      refine (chars_awake _).mono ?_
      rintro e w2 ⟨rfl, hb2⟩
      go_wp2_with fail
      refine (Htr.out _).mono ?_
      rintro e w' ⟨rfl, rfl⟩
      go_wp2_with fail
      refine (Hrtr.out _).mono ?_
      rintro e w' ⟨rfl, rfl⟩
      go_wp2_with fail
      refine (Hem.out _).mono ?_
      rintro e w' ⟨rfl, rfl⟩
      go_wp2_with fail
      refine (Hrtr.out _).mono ?_
      rintro e w' ⟨rfl, rfl⟩
      go_wp2_with fail
      refine (Hbl.out _).mono ?_
      rintro e w' ⟨rfl, rfl⟩
      go_wp2_with fail
      refine (Hpt.out _).mono ?_
      rintro e w' ⟨rfl, rfl⟩
      go_wp2_with fail
      refine (Hst.out _).mono ?_
      rintro e w' ⟨rfl, rfl⟩
      go_wp2_with fail
      go_ret
      exact ⟨by first | rfl | (exact ret_bool (by simp <;> omega)), ((Below.refl _ _).alloc (Nat.le_refl _) _).trans ((hb1.mono (by simp)).trans (hb2.mono (Nat.le_trans (by simp) hb1.size)))⟩
    · obtain rfl : nv = true := (hnv (by omega)).trans hP
      clear hP hS hB hnv
      have Hrn := Lib.hid hrn
      clear hrn
      go_enter Try.func7, Try.ntmps7
      go_wp2_with fail
      refine (Hrn.out _).mono ?_
      rintro e w1 ⟨rfl, hb1⟩
      go_wp2_with fail
      refine (chars_awake _).mono ?_
      rintro e w2 ⟨rfl, hb2⟩
      go_wp2_with fail
      refine (Htr.out _).mono ?_
      rintro e w' ⟨rfl, rfl⟩
      go_wp2_with fail
      refine (Hrtr.out _).mono ?_
      rintro e w' ⟨rfl, rfl⟩
      go_wp2_with fail
      refine (Hem.out _).mono ?_
      rintro e w' ⟨rfl, rfl⟩
      go_wp2_with fail
      refine (Hrtr.out _).mono ?_
      rintro e w' ⟨rfl, rfl⟩
      go_wp2_with fail
      refine (Hbl.out _).mono ?_
      rintro e w' ⟨rfl, rfl⟩
      go_wp2_with fail
      refine (Hpt.out _).mono ?_
      rintro e w' ⟨rfl, rfl⟩
      go_wp2_with fail
      refine (Hst.out _).mono ?_
      rintro e w' ⟨rfl, rfl⟩
      go_wp2_with fail
      go_ret
      exact ⟨by first | rfl | (exact ret_bool (by simp <;> omega)), ((Below.refl _ _).alloc (Nat.le_refl _) _).trans ((hb1.mono (by simp)).trans (hb2.mono (Nat.le_trans (by simp) hb1.size)))⟩
    · obtain rfl : nv = true := (hnv (by omega)).trans hP
      clear hP hS hB hnv
      have Hrn := Lib.hid hrn
      clear hrn
      go_enter Try.func7, Try.ntmps7
      go_wp2_with fail
      refine (Hrn.out _).mono ?_
      rintro e w1 ⟨rfl, hb1⟩
      go_wp2_with fail
      refine (chars_awake _).mono ?_
      rintro e w2 ⟨rfl, hb2⟩
      go_wp2_with fail
      refine (Htr.out _).mono ?_
      rintro e w' ⟨rfl, rfl⟩
      go_wp2_with fail
      refine (Hrtr.out _).mono ?_
      rintro e w' ⟨rfl, rfl⟩
      go_wp2_with fail
      refine (Hem.out _).mono ?_
      rintro e w' ⟨rfl, rfl⟩
      go_wp2_with fail
      refine (Hrtr.out _).mono ?_
      rintro e w' ⟨rfl, rfl⟩
      go_wp2_with fail
      refine (Hbl.out _).mono ?_
      rintro e w' ⟨rfl, rfl⟩
      go_wp2_with fail
      refine (Hpt.out _).mono ?_
      rintro e w' ⟨rfl, rfl⟩
      go_wp2_with fail
      refine (Hst.out _).mono ?_
      rintro e w' ⟨rfl, rfl⟩
      go_wp2_with fail
      go_ret
      exact ⟨by first | rfl | (exact ret_bool (by simp <;> omega)), ((Below.refl _ _).alloc (Nat.le_refl _) _).trans ((hb1.mono (by simp)).trans (hb2.mono (Nat.le_trans (by simp) hb1.size)))⟩
    · clear hP hS hB hnv
      have Hrn := Lib.hid hrn
      clear hrn
      cases nv
      all_goals
        go_enter Try.func7, Try.ntmps7
        go_wp2_with fail
        refine (Hrn.out _).mono ?_
        rintro e w1 ⟨rfl, hb1⟩
        go_wp2_with fail
        refine (chars_awake _).mono ?_
        rintro e w2 ⟨rfl, hb2⟩
        go_wp2_with fail
        refine (Htr.out _).mono ?_
        rintro e w' ⟨rfl, rfl⟩
        go_wp2_with fail
        refine (Hrtr.out _).mono ?_
        rintro e w' ⟨rfl, rfl⟩
        go_wp2_with fail
        refine (Hem.out _).mono ?_
        rintro e w' ⟨rfl, rfl⟩
        go_wp2_with fail
        refine (Hrtr.out _).mono ?_
        rintro e w' ⟨rfl, rfl⟩
        go_wp2_with fail
        refine (Hbl.out _).mono ?_
        rintro e w' ⟨rfl, rfl⟩
        go_wp2_with fail
        refine (Hpt.out _).mono ?_
        rintro e w' ⟨rfl, rfl⟩
        go_wp2_with fail
        refine (Hst.out _).mono ?_
        rintro e w' ⟨rfl, rfl⟩
        go_wp2_with fail
        go_ret
        exact ⟨by first | rfl | (exact ret_bool (by simp <;> omega)), ((Below.refl _ _).alloc (Nat.le_refl _) _).trans ((hb1.mono (by simp)).trans (hb2.mono (Nat.le_trans (by simp) hb1.size)))⟩
    · obtain rfl : nv = true := (hnv (by omega)).trans hP
      clear hP hS hB hnv
      have Hrn := Lib.hid hrn
      clear hrn
      go_enter Try.func7, Try.ntmps7
      go_wp2_with fail
      refine (Hrn.out _).mono ?_
      rintro e w1 ⟨rfl, hb1⟩
      go_wp2_with fail
      refine (chars_awake _).mono ?_
      rintro e w2 ⟨rfl, hb2⟩
      go_wp2_with fail
      refine (Htr.out _).mono ?_
      rintro e w' ⟨rfl, rfl⟩
      go_wp2_with fail
      refine (Hrtr.out _).mono ?_
      rintro e w' ⟨rfl, rfl⟩
      go_wp2_with fail
      refine (Hem.out _).mono ?_
      rintro e w' ⟨rfl, rfl⟩
      go_wp2_with fail
      refine (Hrtr.out _).mono ?_
      rintro e w' ⟨rfl, rfl⟩
      go_wp2_with fail
      refine (Hbl.out _).mono ?_
      rintro e w' ⟨rfl, rfl⟩
      go_wp2_with fail
      refine (Hpt.out _).mono ?_
      rintro e w' ⟨rfl, rfl⟩
      go_wp2_with fail
      refine (Hst.out _).mono ?_
      rintro e w' ⟨rfl, rfl⟩
      go_wp2_with fail
      go_ret
      exact ⟨by first | rfl | (exact ret_bool (by simp <;> omega)), ((Below.refl _ _).alloc (Nat.le_refl _) _).trans ((hb1.mono (by simp)).trans (hb2.mono (Nat.le_trans (by simp) hb1.size)))⟩
    · obtain rfl : nv = false := (hnv (by omega)).trans hP
      clear hP hS hB hnv
      have Hrn := Lib.hid hrn
      clear hrn
      go_enter Try.func7, Try.ntmps7
      go_wp2_with fail
      refine (Hrn.out _).mono ?_
      rintro e w1 ⟨rfl, hb1⟩
      go_wp2_with fail
      refine (chars_awake _).mono ?_
      rintro e w2 ⟨rfl, hb2⟩
      go_wp2_with fail
      refine (Htr.out _).mono ?_
      rintro e w' ⟨rfl, rfl⟩
      go_wp2_with fail
      refine (Hrtr.out _).mono ?_
      rintro e w' ⟨rfl, rfl⟩
      go_wp2_with fail
      refine (Hem.out _).mono ?_
      rintro e w' ⟨rfl, rfl⟩
      go_wp2_with fail
      refine (Hrtr.out _).mono ?_
      rintro e w' ⟨rfl, rfl⟩
      go_wp2_with fail
      refine (Hbl.out _).mono ?_
      rintro e w' ⟨rfl, rfl⟩
      go_wp2_with fail
      refine (Hpt.out _).mono ?_
      rintro e w' ⟨rfl, rfl⟩
      go_wp2_with fail
      refine (Hst.out _).mono ?_
      rintro e w' ⟨rfl, rfl⟩
      go_wp2_with fail
      go_ret
      exact ⟨by first | rfl | (exact ret_bool (by simp <;> omega)), ((Below.refl _ _).alloc (Nat.le_refl _) _).trans ((hb1.mono (by simp)).trans (hb2.mono (Nat.le_trans (by simp) hb1.size)))⟩
theorem charsBlanks_walk (a0 : ByteArray) (a1 : Int) (w0 : a0.size ≤ maxLen) (w1 : (Lit.int .u8 a1).wf = true) (w : World) :
    Calls Try.prog 7 #[.string a0, .int .u8 a1] w fun e w' => e = .returned (.bool true) ∧ Below w.heap.size w w' := by
  have h := bounds_u8 w1
  exact blanks_in a0 a1 w0 h.1 (by omega) w
end Go.Proofs.Ytgdkmipkgjkjjaa
