/- A plain law: reading by trying and reading by form are one. -/
import Derived.Test.YtgdkmipkgjkjjaaUtfP
namespace Go.Proofs.Ytgdkmipkgjkjjaa
section
variable (l : List UInt8)
theorem dec_1 : dec l 1 = formR (Bl l 0) * 64 + Bl l 1 % 64 := rfl
theorem dec_2 : dec l 2 = (formR (Bl l 0) * 64 + Bl l 1 % 64) * 64 + Bl l 2 % 64 := rfl
theorem dec_3 : dec l 3 = ((formR (Bl l 0) * 64 + Bl l 1 % 64) * 64 + Bl l 2 % 64) * 64 + Bl l 3 % 64 := rfl
theorem sizeI_eq (r n : Int) : sizeI r = n ↔ (mayB r = false ∧ n = 0) ∨ (mayB r = true ∧ r < 128 ∧ n = 1) ∨ (mayB r = true ∧ 128 ≤ r ∧ r < 2048 ∧ n = 2) ∨ (mayB r = true ∧ 2048 ≤ r ∧ r < 65536 ∧ n = 3) ∨ (mayB r = true ∧ 65536 ≤ r ∧ n = 4) := by
  unfold sizeI
  cases hm : mayB r
  · simp [eq_comm]
  · simp
    split
    · omega
    · split
      · omega
      · split <;> omega
theorem getL_ok1 (h : ok1 l) : getL l = (rN l 1, 1) := by
  obtain ⟨hl, h0⟩ := h
  have hn : formN (Bl l 0) = 1 := by unfold formN; rw [if_pos h0]
  have hr : formR (Bl l 0) = Bl l 0 := by unfold formR; rw [if_pos h0]
  have := Bl_lo l 0
  rw [getL_end rfl rfl (by omega) (by omega) (fun j hj => by omega), hn, rN_1]
  show (if sizeI (formR (Bl l 0)) ≠ 1 then _ else (formR (Bl l 0), (1 : Int))) = _
  rw [hr, if_neg]
  rw [ne_eq, Decidable.not_not, sizeI_eq, mayB_true]
  omega
theorem getL_ok2 (h : ok2 l) : getL l = (rN l 2, 2) := by
  obtain ⟨hl, h0, h0', h1⟩ := h
  have hn : formN (Bl l 0) = 2 := by unfold formN; rw [if_neg (by omega), if_pos (by omega)]
  have hr : formR (Bl l 0) = Bl l 0 % 32 := by unfold formR; rw [if_neg (by omega), if_pos (by omega)]
  have hd : dec l 1 = rN l 2 := by rw [dec_1, rN_2, hr]; omega
  rw [getL_end rfl rfl (by omega) (by omega) (fun j hj => by obtain rfl : j = 0 := by omega
                                                             exact h1), hn]
  show (if sizeI (dec l 1) ≠ 2 then _ else (dec l 1, (2 : Int))) = _
  rw [hd, if_neg]
  rw [ne_eq, Decidable.not_not, sizeI_eq, mayB_true, rN_2]
  omega
theorem getL_ok3 (h : ok3 l) : getL l = (rN l 3, 3) := by
  obtain ⟨hl, h0, h0', h1, h1', h2, h2', hr1, hr2⟩ := h
  have hn : formN (Bl l 0) = 3 := by unfold formN; rw [if_neg (by omega), if_neg (by omega), if_pos (by omega)]
  have hr : formR (Bl l 0) = Bl l 0 % 16 := by unfold formR; rw [if_neg (by omega), if_neg (by omega), if_pos (by omega)]
  have hd : dec l 2 = rN l 3 := by rw [dec_2, rN_3, hr]; omega
  rw [getL_end rfl rfl (by omega) (by omega) (fun j hj => by
    have : j = 0 ∨ j = 1 := by omega
    rcases this with rfl | rfl
    · exact ⟨h1, h1'⟩
    · exact ⟨h2, h2'⟩), hn]
  show (if sizeI (dec l 2) ≠ 3 then _ else (dec l 2, (3 : Int))) = _
  rw [hd, if_neg]
  rw [ne_eq, Decidable.not_not, sizeI_eq, mayB_true]
  have := rN_3 l
  omega
theorem getL_ok4 (h : ok4 l) : getL l = (rN l 4, 4) := by
  obtain ⟨hl, h0, h0', h1, h1', h2, h2', h3, h3', hr1, hr2⟩ := h
  have hn : formN (Bl l 0) = 4 := by unfold formN; rw [if_neg (by omega), if_neg (by omega), if_neg (by omega), if_pos (by omega)]
  have hr : formR (Bl l 0) = Bl l 0 % 8 := by unfold formR; rw [if_neg (by omega), if_neg (by omega), if_neg (by omega), if_pos (by omega)]
  have hd : dec l 3 = rN l 4 := by rw [dec_3, rN_4, hr]; omega
  rw [getL_end rfl rfl (by omega) (by omega) (fun j hj => by
    have : j = 0 ∨ j = 1 ∨ j = 2 := by omega
    rcases this with rfl | rfl | rfl
    · exact ⟨h1, h1'⟩
    · exact ⟨h2, h2'⟩
    · exact ⟨h3, h3'⟩), hn]
  show (if sizeI (dec l 3) ≠ 4 then _ else (dec l 3, (4 : Int))) = _
  rw [hd, if_neg]
  rw [ne_eq, Decidable.not_not, sizeI_eq, mayB_true]
  omega
theorem getL_none (h1 : ¬ ok1 l) (h2 : ¬ ok2 l) (h3 : ¬ ok3 l) (h4 : ¬ ok4 l) : getL l = (0, 0) := by
  by_cases hl : l = []
  · unfold getL; rw [if_pos hl]
  · have hlen : 0 < l.length := List.length_pos_iff.2 hl
    by_cases hn : formN (Bl l 0) = 0 ∨ (l.length : Int) < formN (Bl l 0)
    · exact getL_short rfl rfl hlen hn
    · have hf : formN (Bl l 0) = if Bl l 0 < 128 then 1 else if 194 ≤ Bl l 0 ∧ Bl l 0 < 224 then 2 else if 224 ≤ Bl l 0 ∧ Bl l 0 < 240 then 3 else if 240 ≤ Bl l 0 ∧ Bl l 0 < 245 then 4 else 0 := by unfold formN; rfl
      have hr : formR (Bl l 0) = if Bl l 0 < 128 then Bl l 0 else if 194 ≤ Bl l 0 ∧ Bl l 0 < 224 then Bl l 0 % 32 else if 224 ≤ Bl l 0 ∧ Bl l 0 < 240 then Bl l 0 % 16 else if 240 ≤ Bl l 0 ∧ Bl l 0 < 245 then Bl l 0 % 8 else 0 := by unfold formR; rfl
      by_cases c1 : Bl l 0 < 128
      · exact absurd ⟨hlen, c1⟩ h1
      · rw [if_neg c1] at hf hr
        by_cases c2 : 194 ≤ Bl l 0 ∧ Bl l 0 < 224
        · rw [if_pos c2] at hf hr
          by_cases d1 : 128 ≤ Bl l 1 ∧ Bl l 1 < 192
          · exact absurd ⟨by omega, c2.1, c2.2, d1⟩ h2
          · exact getL_cont rfl rfl 0 (by omega) d1
        · rw [if_neg c2] at hf hr
          by_cases c3 : 224 ≤ Bl l 0 ∧ Bl l 0 < 240
          · rw [if_pos c3] at hf hr
            by_cases d1 : 128 ≤ Bl l 1 ∧ Bl l 1 < 192
            · by_cases d2 : 128 ≤ Bl l 2 ∧ Bl l 2 < 192
              · have hd : dec l 2 = rN l 3 := by rw [dec_2, rN_3, hr]; omega
                have e3 := rN_3 l
                rw [getL_end rfl rfl (by omega) (by omega) (fun j hj => by
                  have : j = 0 ∨ j = 1 := by omega
                  rcases this with rfl | rfl
                  · exact d1
                  · exact d2), hf]
                show (if sizeI (dec l 2) ≠ 3 then _ else (dec l 2, (3 : Int))) = _
                rw [if_pos]
                rw [hd, ne_eq, sizeI_eq, mayB_true, mayB_false]
                intro hc
                exact h3 ⟨by omega, c3.1, c3.2, d1.1, d1.2, d2.1, d2.2, by omega, by omega⟩
              · exact getL_cont rfl rfl 1 (by omega) d2
            · exact getL_cont rfl rfl 0 (by omega) d1
          · rw [if_neg c3] at hf hr
            by_cases c4 : 240 ≤ Bl l 0 ∧ Bl l 0 < 245
            · rw [if_pos c4] at hf hr
              by_cases d1 : 128 ≤ Bl l 1 ∧ Bl l 1 < 192
              · by_cases d2 : 128 ≤ Bl l 2 ∧ Bl l 2 < 192
                · by_cases d3 : 128 ≤ Bl l 3 ∧ Bl l 3 < 192
                  · have hd : dec l 3 = rN l 4 := by rw [dec_3, rN_4, hr]; omega
                    have e4 := rN_4 l
                    rw [getL_end rfl rfl (by omega) (by omega) (fun j hj => by
                      have : j = 0 ∨ j = 1 ∨ j = 2 := by omega
                      rcases this with rfl | rfl | rfl
                      · exact d1
                      · exact d2
                      · exact d3), hf]
                    show (if sizeI (dec l 3) ≠ 4 then _ else (dec l 3, (4 : Int))) = _
                    rw [if_pos]
                    rw [hd, ne_eq, sizeI_eq, mayB_true, mayB_false]
                    intro hc
                    exact h4 ⟨by omega, c4.1, c4.2, d1.1, d1.2, d2.1, d2.2, d3.1, d3.2, by omega, by omega⟩
                  · exact getL_cont rfl rfl 2 (by omega) d3
                · exact getL_cont rfl rfl 1 (by omega) d2
              · exact getL_cont rfl rfl 0 (by omega) d1
            · rw [if_neg c4] at hf
              exact absurd (.inl hf) hn

theorem getR_eq : getR l = getL l := by
  unfold getR
  by_cases h1 : ok1 l
  · rw [if_pos ((hit1 l).2 h1), getL_ok1 l h1]
  · rw [if_neg (fun h => h1 ((hit1 l).1 h))]
    by_cases h2 : ok2 l
    · rw [if_pos ((hit2 l).2 h2), getL_ok2 l h2]
    · rw [if_neg (fun h => h2 ((hit2 l).1 h))]
      by_cases h3 : ok3 l
      · rw [if_pos ((hit3 l).2 h3), getL_ok3 l h3]
      · rw [if_neg (fun h => h3 ((hit3 l).1 h))]
        by_cases h4 : ok4 l
        · rw [if_pos ((hit4 l).2 h4), getL_ok4 l h4]
        · rw [if_neg (fun h => h4 ((hit4 l).1 h)), getL_none l h1 h2 h3 h4]
/-- What is read has so many bytes as are there, and they are the letter's. -/
theorem getL_cases : getL l = (0, 0) ∨ ∃ n : Nat, 1 ≤ n ∧ n ≤ 4 ∧ n ≤ l.length ∧ getL l = (rN l n, (n : Int)) ∧ hit l n = true := by
  by_cases h1 : ok1 l
  · exact .inr ⟨1, by omega, by omega, h1.1, getL_ok1 l h1, (hit1 l).2 h1⟩
  · by_cases h2 : ok2 l
    · exact .inr ⟨2, by omega, by omega, h2.1, getL_ok2 l h2, (hit2 l).2 h2⟩
    · by_cases h3 : ok3 l
      · exact .inr ⟨3, by omega, by omega, h3.1, getL_ok3 l h3, (hit3 l).2 h3⟩
      · by_cases h4 : ok4 l
        · exact .inr ⟨4, by omega, by omega, h4.1, getL_ok4 l h4, (hit4 l).2 h4⟩
        · exact .inl (getL_none l h1 h2 h3 h4)
end
end Go.Proofs.Ytgdkmipkgjkjjaa
