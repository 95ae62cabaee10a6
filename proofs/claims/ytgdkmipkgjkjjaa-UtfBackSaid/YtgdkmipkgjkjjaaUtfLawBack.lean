/- The walk of the law UtfBack. -/
import Derived.Test.YtgdkmipkgjkjjaaUtfH
namespace Go.Proofs.Ytgdkmipkgjkjjaa
open Go.RowKit

theorem get_at_end (t S : ByteArray) (r : Int) (w : World) (ht : (t ++ S).size ≤ maxLen) (hm : mayB r = true) (HS : Hid (S = strOfNums (putI r))) (hz : sizeI r = (S.size : Int)) (k : Nat) (hk : k = t.size) :
    Calls Try.prog 13 #[.string (t ++ S), .int .i64 (k : Nat)] w fun e w' => e = .returned (.tuple #[.int .i64 r, .int .i64 (S.size : Nat)]) ∧ w = w' := by
  subst hk
  have hpos : 0 < S.size := by
    have := (sizeI_eq r (S.size : Int)).1 hz
    rw [hm] at this
    simp at this
    omega
  have h := get_in (t ++ S) t.size w ht (by simp; omega)
  have e : (t ++ S).data.toList.drop t.size = Lib.bytesOf (putI r) := by
    rw [HS.out]
    simp [strOfNums, Lib.bytesOf]
  rw [e, getL_put r hm, hz] at h
  exact h

theorem utfBack_walk (a0 : Int) (a1 : ByteArray) (_w0 : (Lit.int .i64 a0).wf = true) (w1 : a1.size ≤ maxLen) (w : World) :
    Calls Try.prog 3 #[.int .i64 a0, .string a1] w fun e w' => e = .returned (.bool true) ∧ Below w.heap.size w w' := by
  clear _w0
  unfold maxLen at w1
  obtain ⟨S, hS⟩ : ∃ S, S = strOfNums (putI a0) := ⟨_, rfl⟩
  have hrput := rput_any a0
  have huput := uput_any a0
  have hsize := size_any a0
  rw [← hS] at hrput huput
  have hz : (S.size : Int) = sizeI a0 := by rw [hS, strOfNums_size, putI_len]
  have hz4 : S.size ≤ 4 := by rw [hS, strOfNums_size]; exact putI_le a0
  have HS := Lib.hid hS
  clear hS
  rw [← hz] at hsize
  have Hrput := Lib.hid hrput
  have Huput := Lib.hid huput
  have Hsize := Lib.hid hsize
  clear hrput huput hsize
  cases hm : mayB a0
  · have hS0 : S.size = 0 := by
      have : sizeI a0 = 0 := by unfold sizeI; rw [if_pos hm]
      omega
    have hSe : S.toList = [] := by rw [Lib.toList_data]; exact List.eq_nil_of_length_eq_zero (by simpa using hS0)
    have hSf : S.toList.isEmpty = true := by rw [hSe]; rfl
    have hno := mayB_false.1 hm
    clear hz
    by_cases hsz : (8 : Int) < a1.size
    · go_enter Try.func3, Try.ntmps3
      go_wp2_with fail
      refine (Hrput.out _).mono ?_
      rintro e w1 ⟨rfl, hb1⟩
      go_wp2_with fail
      generalize hgen : a1.extract 0 8 = t
      have htn : t.size ≤ 8 := by rw [← hgen]; simp; omega
      have htk : Hid (min 8 a1.size = t.size) := by rw [← hgen]; simp [Hid]
      clear hgen
      have ht : (t ++ S).size ≤ maxLen := by unfold maxLen; simp; omega
      refine (get_out (t ++ S) _ _ ht (.inr (by simp; omega))).mono ?_
      rintro e w' ⟨rfl, rfl⟩
      go_wp2_with fail
      refine (utf_awake _).mono ?_
      rintro e w2 ⟨rfl, hb2⟩
      go_wp2_with fail
      refine (may_any _ _).mono ?_
      rintro e w' ⟨rfl, rfl⟩
      go_wp2_with fail
      refine (Huput.out _).mono ?_
      rintro e w3 ⟨rfl, hb3⟩
      go_wp2_with fail
      refine (Hsize.out _).mono ?_
      rintro e w' ⟨rfl, rfl⟩
      go_wp2_with fail
      all_goals
        go_ret
        exact ⟨ret_bool (by first | rfl | (simp; omega)), hb1.trans ((hb2.mono hb1.size).trans (hb3.mono (Nat.le_trans hb1.size hb2.size)))⟩
    · have htn : a1.size ≤ 8 := by omega
      go_enter Try.func3, Try.ntmps3
      go_wp2_with fail
      refine (Hrput.out _).mono ?_
      rintro e w1 ⟨rfl, hb1⟩
      go_wp2_with fail
      have ht : (a1 ++ S).size ≤ maxLen := by unfold maxLen; simp; omega
      refine (get_out (a1 ++ S) _ _ ht (.inr (by simp; omega))).mono ?_
      rintro e w' ⟨rfl, rfl⟩
      go_wp2_with fail
      refine (utf_awake _).mono ?_
      rintro e w2 ⟨rfl, hb2⟩
      go_wp2_with fail
      refine (may_any _ _).mono ?_
      rintro e w' ⟨rfl, rfl⟩
      go_wp2_with fail
      refine (Huput.out _).mono ?_
      rintro e w3 ⟨rfl, hb3⟩
      go_wp2_with fail
      refine (Hsize.out _).mono ?_
      rintro e w' ⟨rfl, rfl⟩
      go_wp2_with fail
      all_goals
        go_ret
        exact ⟨ret_bool (by first | rfl | (simp; omega)), hb1.trans ((hb2.mono hb1.size).trans (hb3.mono (Nat.le_trans hb1.size hb2.size)))⟩
  · have hpos : 0 < S.size := by
      have := (sizeI_eq a0 (S.size : Int)).1 hz.symm
      rw [hm] at this
      simp at this
      omega
    have hSf : S.toList.isEmpty = false := by rw [Lib.toList_data]; cases hc : S.data.toList with
      | nil => rw [Lib.size_eq, hc] at hpos; simp at hpos
      | cons a b => rfl
    by_cases hsz : (8 : Int) < a1.size
    · go_enter Try.func3, Try.ntmps3
      go_wp2_with fail
      refine (Hrput.out _).mono ?_
      rintro e w1 ⟨rfl, hb1⟩
      go_wp2_with fail
      generalize hgen : a1.extract 0 8 = t
      have htn : t.size ≤ 8 := by rw [← hgen]; simp; omega
      have htk : Hid (min 8 a1.size = t.size) := by rw [← hgen]; simp [Hid]
      clear hgen
      have ht : (t ++ S).size ≤ maxLen := by unfold maxLen; simp; omega
      refine (get_at_end t S a0 _ ht hm HS hz.symm _ htk.out).mono ?_
      rintro e w' ⟨rfl, rfl⟩
      go_wp2_with fail
      refine (utf_awake _).mono ?_
      rintro e w2 ⟨rfl, hb2⟩
      go_wp2_with fail
      refine (may_any _ _).mono ?_
      rintro e w' ⟨rfl, rfl⟩
      go_wp2_with fail
      refine (Huput.out _).mono ?_
      rintro e w3 ⟨rfl, hb3⟩
      go_wp2_with fail
      refine (Hsize.out _).mono ?_
      rintro e w' ⟨rfl, rfl⟩
      go_wp2_with fail
      all_goals
        go_ret
        exact ⟨rfl, hb1.trans ((hb2.mono hb1.size).trans (hb3.mono (Nat.le_trans hb1.size hb2.size)))⟩
    · have htn : a1.size ≤ 8 := by omega
      go_enter Try.func3, Try.ntmps3
      go_wp2_with fail
      refine (Hrput.out _).mono ?_
      rintro e w1 ⟨rfl, hb1⟩
      go_wp2_with fail
      have ht : (a1 ++ S).size ≤ maxLen := by unfold maxLen; simp; omega
      refine (get_at_end a1 S a0 _ ht hm HS hz.symm _ rfl).mono ?_
      rintro e w' ⟨rfl, rfl⟩
      go_wp2_with fail
      refine (utf_awake _).mono ?_
      rintro e w2 ⟨rfl, hb2⟩
      go_wp2_with fail
      refine (may_any _ _).mono ?_
      rintro e w' ⟨rfl, rfl⟩
      go_wp2_with fail
      refine (Huput.out _).mono ?_
      rintro e w3 ⟨rfl, hb3⟩
      go_wp2_with fail
      refine (Hsize.out _).mono ?_
      rintro e w' ⟨rfl, rfl⟩
      go_wp2_with fail
      all_goals
        go_ret
        exact ⟨rfl, hb1.trans ((hb2.mono hb1.size).trans (hb3.mono (Nat.le_trans hb1.size hb2.size)))⟩
end Go.Proofs.Ytgdkmipkgjkjjaa
