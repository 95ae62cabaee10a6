/- A plain law: a letter's bytes are read as it. -/
import Derived.Test.YtgdkmipkgjkjjaaUtfG
namespace Go.Proofs.Ytgdkmipkgjkjjaa

theorem Bl_bytesOf (xs : List Int) (h : ∀ x ∈ xs, 0 ≤ x ∧ x < 256) (i : Nat) : Bl (Lib.bytesOf xs) i = xs.getD i 0 := by
  have e : numsOf (Lib.bytesOf xs) = xs := numsOf_bytesOf xs h
  unfold Bl
  conv => rhs; rw [← e]
  unfold numsOf
  rw [List.getD_eq_getElem?_getD, List.getD_eq_getElem?_getD, List.getElem?_map]
  cases (Lib.bytesOf xs)[i]? <;> simp
theorem putI_no {r : Int} (h : mayB r = false) : putI r = [] := by unfold putI; rw [if_pos h]
theorem putI_len (r : Int) : ((putI r).length : Int) = sizeI r := by
  unfold putI sizeI
  cases mayB r
  · simp
  · simp only [Bool.true_eq_false, ↓reduceIte]
    (repeat' split) <;> rfl
theorem getL_put (r : Int) (h : mayB r = true) : getL (Lib.bytesOf (putI r)) = (r, sizeI r) := by
  obtain ⟨h0, h1, h2⟩ := mayB_true.1 h
  have hB := Bl_bytesOf (putI r) (putI_range r)
  have hlen : (Lib.bytesOf (putI r)).length = (putI r).length := Lib.bytesOf_length _
  have hs := putI_len r
  generalize Lib.bytesOf (putI r) = l at *
  have hr := putI_eq r (putI r)
  rw [h] at hr
  simp only [true_iff, Bool.true_eq_false, false_and, false_or, true_and] at hr
  rcases hr with ⟨c, e⟩ | ⟨c, c', e⟩ | ⟨c, c', e⟩ | ⟨c, e⟩
  all_goals
    rw [e] at hB hlen hs
    have b0 := hB 0
    have b1 := hB 1
    have b2 := hB 2
    have b3 := hB 3
    clear hB
    simp at b0 b1 b2 b3 hlen hs
  · rw [getL_ok1 l ⟨by omega, by omega⟩, rN_1, ← hs, b0]
  · rw [getL_ok2 l ⟨by omega, by omega, by omega, by omega, by omega⟩, rN_2, ← hs]
    exact Prod.ext (by show _ = r; omega) rfl
  · have e3 := rN_3 l
    have er : rN l 3 = r := by omega
    rw [getL_ok3 l ⟨by omega, by omega, by omega, by omega, by omega, by omega, by omega, by omega, by omega⟩, ← hs, er]
  · have e4 := rN_4 l
    have er : rN l 4 = r := by omega
    rw [getL_ok4 l ⟨by omega, by omega, by omega, by omega, by omega, by omega, by omega, by omega, by omega, by omega, by omega⟩, ← hs, er]
theorem putI_le (r : Int) : (putI r).length ≤ 4 := by
  unfold putI
  (repeat' split) <;> simp
end Go.Proofs.Ytgdkmipkgjkjjaa
