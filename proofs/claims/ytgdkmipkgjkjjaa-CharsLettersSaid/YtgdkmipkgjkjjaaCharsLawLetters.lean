/- The walk of the law CharsLetters. -/
import Derived.Test.YtgdkmipkgjkjjaaCharsG
namespace Go.Proofs.Ytgdkmipkgjkjjaa
open Go.RowKit
attribute [local go_sem] conv_new1

theorem text_put (r : Int) (h : mayB r = true) : textFrom (Lib.bytesOf (putI r)) 0 = if letterB r = true then -1 else 0 := by
  have hg := getL_put r h
  have hl : 0 < (Lib.bytesOf (putI r)).length := by
    rw [Lib.bytesOf_length]
    have h1 := putI_len r
    have h2 := (sizeI_eq r (sizeI r)).1 rfl
    rw [h] at h2
    simp at h2
    omega
  have hs : sizeI r = ((Lib.bytesOf (putI r)).length : Int) := by rw [Lib.bytesOf_length, putI_len]
  generalize Lib.bytesOf (putI r) = l at *
  rw [hs] at hg
  cases hb : letterB r
  · rw [textFrom_bad (k := 0) hl (by rw [List.drop_zero]; exact hg) (.inr hb)]
    simp
  · rw [textFrom_next (k := 0) hl hl hb (by rw [List.drop_zero]; exact hg), textFrom_end (by omega)]
    simp
theorem letter_may {r : Int} (h : mayB r = false) : letterB r = false := by
  cases hb : letterB r
  · rfl
  · have h1 := letterB_iff.1 hb
    have h2 := mayB_false.1 h
    rw [h] at h1
    simp at h1
    omega

set_option maxHeartbeats 2000000 in
theorem charsLetters_walk (a0 : Int) (a1 : ByteArray) (_w0 : (Lit.int .i64 a0).wf = true) (w1 : a1.size ≤ maxLen) (w : World) :
    Calls Try.prog 8 #[.int .i64 a0, .string a1] w fun e w' => e = .returned (.bool true) ∧ Below w.heap.size w w' := by
  clear _w0
  unfold maxLen at w1
  obtain ⟨S, hS⟩ : ∃ S, S = strOfNums (putI a0) := ⟨_, rfl⟩
  have hrput := rput_any a0
  rw [← hS] at hrput
  have Hrput := Lib.hid hrput
  clear hrput
  have hz : (S.size : Int) = sizeI a0 := by rw [hS, strOfNums_size, putI_len]
  have hz4 : S.size ≤ 4 := by rw [hS, strOfNums_size]; exact putI_le a0
  have hlet := letter_any a0
  cases hm : mayB a0
  · have hS0 : S.size = 0 := by
      have : sizeI a0 = 0 := by unfold sizeI; rw [if_pos hm]
      omega
    have hSf : S.toList.isEmpty = true := isEmpty_of hS0
    rw [letter_may hm] at hlet
    have Hlet := Lib.hid hlet
    clear hlet hm hz hS hS0
    by_cases hsz : (40 : Int) < a1.size
    · go_enter Try.func8, Try.ntmps8
      go_wp2_with fail
      refine (Hrput.out _).mono ?_
      rintro e w1 ⟨rfl, hb1⟩
      go_wp2_with fail
      have hbx := hb1
      generalize hgen : a1.extract 0 40 = t
      have htn : t.size ≤ 40 := by rw [← hgen]; simp; omega
      clear hgen
      have ht : t.size ≤ maxLen := by unfold maxLen; omega
      have hta := fun w => text_any t w ht
      have htr := fun w => rtext_any t w ht
      obtain ⟨q, hq⟩ : ∃ q, q = textFrom t.data.toList 0 := ⟨_, rfl⟩
      rw [← hq] at hta htr
      have Hta := Lib.hid hta
      have Htr := Lib.hid htr
      clear hta htr hq
      refine (chars_awake _).mono ?_
      rintro e w3 ⟨rfl, hb3⟩
      go_wp2_with fail
      refine (Hlet.out _).mono ?_
      rintro e w' ⟨rfl, rfl⟩
      go_wp2_with fail
      refine (Hta.out _).mono ?_
      rintro e w' ⟨rfl, rfl⟩
      go_wp2_with fail
      refine (Htr.out _).mono ?_
      rintro e w4 ⟨rfl, hb4⟩
      go_wp2_with fail
      go_ret
      exact ⟨rfl, hbx.trans ((hb3.mono hbx.size).trans (hb4.mono (Nat.le_trans hbx.size hb3.size)))⟩
    · have htn : a1.size ≤ 40 := by omega
      go_enter Try.func8, Try.ntmps8
      go_wp2_with fail
      refine (Hrput.out _).mono ?_
      rintro e w1 ⟨rfl, hb1⟩
      go_wp2_with fail
      have hbx := hb1
      have ht : a1.size ≤ maxLen := by unfold maxLen; omega
      have hta := fun w => text_any a1 w ht
      have htr := fun w => rtext_any a1 w ht
      obtain ⟨q, hq⟩ : ∃ q, q = textFrom a1.data.toList 0 := ⟨_, rfl⟩
      rw [← hq] at hta htr
      have Hta := Lib.hid hta
      have Htr := Lib.hid htr
      clear hta htr hq
      refine (chars_awake _).mono ?_
      rintro e w3 ⟨rfl, hb3⟩
      go_wp2_with fail
      refine (Hlet.out _).mono ?_
      rintro e w' ⟨rfl, rfl⟩
      go_wp2_with fail
      refine (Hta.out _).mono ?_
      rintro e w' ⟨rfl, rfl⟩
      go_wp2_with fail
      refine (Htr.out _).mono ?_
      rintro e w4 ⟨rfl, hb4⟩
      go_wp2_with fail
      go_ret
      exact ⟨rfl, hbx.trans ((hb3.mono hbx.size).trans (hb4.mono (Nat.le_trans hbx.size hb3.size)))⟩
  · have hpos : 0 < S.size := by
      have h2 := (sizeI_eq a0 (S.size : Int)).1 hz.symm
      rw [hm] at h2
      simp at h2
      omega
    have hSf : S.toList.isEmpty = false := not_isEmpty_of hpos
    have htx : ∀ w, Calls Try.prog 32 #[.string S] w fun e w' => e = .returned (.int .i64 (if letterB a0 = true then -1 else 0)) ∧ Below w.heap.size w w' := fun w => by
      have h := rtext_any S w (by unfold maxLen; omega)
      have e : S.data.toList = Lib.bytesOf (putI a0) := by rw [hS]; rfl
      rw [e, text_put a0 hm] at h
      exact h
    clear hm hz hS
    cases hlb : letterB a0
    all_goals
      rw [hlb] at hlet htx
      simp only [Bool.false_eq_true, ↓reduceIte] at htx
      have Hlet := Lib.hid hlet
      have Htx := Lib.hid htx
      clear hlet htx hlb
      by_cases hsz : (40 : Int) < a1.size
      · go_enter Try.func8, Try.ntmps8
        go_wp2_with fail
        refine (Hrput.out _).mono ?_
        rintro e w1 ⟨rfl, hb1⟩
        go_wp2_with fail
        refine (Hrput.out _).mono ?_
        rintro e w2 ⟨rfl, hb2⟩
        go_wp2_with fail
        refine (Htx.out _).mono ?_
        rintro e w5 ⟨rfl, hb5⟩
        go_wp2_with fail
        have hbx := hb1.trans ((hb2.mono hb1.size).trans (hb5.mono (Nat.le_trans hb1.size hb2.size)))
        generalize hgen : a1.extract 0 40 = t
        have htn : t.size ≤ 40 := by rw [← hgen]; simp; omega
        clear hgen
        have ht : t.size ≤ maxLen := by unfold maxLen; omega
        have hta := fun w => text_any t w ht
        have htr := fun w => rtext_any t w ht
        obtain ⟨q, hq⟩ : ∃ q, q = textFrom t.data.toList 0 := ⟨_, rfl⟩
        rw [← hq] at hta htr
        have Hta := Lib.hid hta
        have Htr := Lib.hid htr
        clear hta htr hq
        refine (chars_awake _).mono ?_
        rintro e w3 ⟨rfl, hb3⟩
        go_wp2_with fail
        refine (Hlet.out _).mono ?_
        rintro e w' ⟨rfl, rfl⟩
        go_wp2_with fail
        refine (Hta.out _).mono ?_
        rintro e w' ⟨rfl, rfl⟩
        go_wp2_with fail
        refine (Htr.out _).mono ?_
        rintro e w4 ⟨rfl, hb4⟩
        go_wp2_with fail
        go_ret
        exact ⟨rfl, hbx.trans ((hb3.mono hbx.size).trans (hb4.mono (Nat.le_trans hbx.size hb3.size)))⟩
      · have htn : a1.size ≤ 40 := by omega
        go_enter Try.func8, Try.ntmps8
        go_wp2_with fail
        refine (Hrput.out _).mono ?_
        rintro e w1 ⟨rfl, hb1⟩
        go_wp2_with fail
        refine (Hrput.out _).mono ?_
        rintro e w2 ⟨rfl, hb2⟩
        go_wp2_with fail
        refine (Htx.out _).mono ?_
        rintro e w5 ⟨rfl, hb5⟩
        go_wp2_with fail
        have hbx := hb1.trans ((hb2.mono hb1.size).trans (hb5.mono (Nat.le_trans hb1.size hb2.size)))
        have ht : a1.size ≤ maxLen := by unfold maxLen; omega
        have hta := fun w => text_any a1 w ht
        have htr := fun w => rtext_any a1 w ht
        obtain ⟨q, hq⟩ : ∃ q, q = textFrom a1.data.toList 0 := ⟨_, rfl⟩
        rw [← hq] at hta htr
        have Hta := Lib.hid hta
        have Htr := Lib.hid htr
        clear hta htr hq
        refine (chars_awake _).mono ?_
        rintro e w3 ⟨rfl, hb3⟩
        go_wp2_with fail
        refine (Hlet.out _).mono ?_
        rintro e w' ⟨rfl, rfl⟩
        go_wp2_with fail
        refine (Hta.out _).mono ?_
        rintro e w' ⟨rfl, rfl⟩
        go_wp2_with fail
        refine (Htr.out _).mono ?_
        rintro e w4 ⟨rfl, hb4⟩
        go_wp2_with fail
        go_ret
        exact ⟨rfl, hbx.trans ((hb3.mono hbx.size).trans (hb4.mono (Nat.le_trans hbx.size hb3.size)))⟩
end Go.Proofs.Ytgdkmipkgjkjjaa
