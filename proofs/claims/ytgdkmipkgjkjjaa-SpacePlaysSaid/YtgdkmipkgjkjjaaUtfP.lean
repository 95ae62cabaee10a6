/- A plain law: the letter that is found by trying is the letter that is read. -/
import Derived.Test.YtgdkmipkgjkjjaaUtfE
namespace Go.Proofs.Ytgdkmipkgjkjjaa

theorem putI_range (r : Int) : ∀ x ∈ putI r, 0 ≤ x ∧ x < 256 := by
  intro x hx
  unfold putI at hx
  by_cases hm : mayB r = false
  · rw [if_pos hm] at hx; simp at hx
  · rw [if_neg hm] at hx
    have hb := mayB_true.1 (by simpa using hm)
    (repeat' split at hx) <;> simp at hx <;> omega
/-- Numbers of bytes, from bytes. -/
def numsOf (l : List UInt8) : List Int := l.map fun b => (b.toNat : Int)
theorem numsOf_bytesOf (xs : List Int) (h : ∀ x ∈ xs, 0 ≤ x ∧ x < 256) : numsOf (Lib.bytesOf xs) = xs := by
  unfold numsOf Lib.bytesOf
  rw [List.map_map]
  conv => rhs; rw [← List.map_id xs]
  apply List.map_congr_left
  intro x hx
  have := h x hx
  simp
  omega
theorem bytesOf_numsOf (l : List UInt8) : Lib.bytesOf (numsOf l) = l := by
  unfold numsOf Lib.bytesOf
  rw [List.map_map]
  conv => rhs; rw [← List.map_id l]
  apply List.map_congr_left
  intro x _
  simp
theorem hit_iff (l : List UInt8) (n : Nat) : hit l n = true ↔ n ≤ l.length ∧ putI (rN l n) = numsOf (l.take n) := by
  unfold hit
  rw [Bool.and_eq_true, decide_eq_true_eq, beq_iff_eq]
  constructor
  · rintro ⟨h, e⟩
    exact ⟨h, by rw [← e, numsOf_bytesOf _ (putI_range _)]⟩
  · rintro ⟨h, e⟩
    exact ⟨h, by rw [e, bytesOf_numsOf]⟩
theorem numsOf_take : ∀ (n : Nat) (l : List UInt8), n ≤ l.length → numsOf (l.take n) = (List.range n).map (Bl l) := by
  intro n l h
  apply List.ext_getElem
  · simp [numsOf]; omega
  · intro i h1 h2
    simp at h2
    simp [numsOf]
    unfold Bl
    rw [List.getD_eq_getElem?_getD, List.getElem?_eq_getElem (by omega)]
    rfl

section
variable (l : List UInt8)
def ok1 : Prop := 1 ≤ l.length ∧ Bl l 0 < 128
def ok2 : Prop := 2 ≤ l.length ∧ 194 ≤ Bl l 0 ∧ Bl l 0 < 224 ∧ 128 ≤ Bl l 1 ∧ Bl l 1 < 192
def ok3 : Prop := 3 ≤ l.length ∧ 224 ≤ Bl l 0 ∧ Bl l 0 < 240 ∧ 128 ≤ Bl l 1 ∧ Bl l 1 < 192 ∧ 128 ≤ Bl l 2 ∧ Bl l 2 < 192 ∧ 2048 ≤ rN l 3 ∧ (rN l 3 < 55296 ∨ 57343 < rN l 3)
def ok4 : Prop := 4 ≤ l.length ∧ 240 ≤ Bl l 0 ∧ Bl l 0 < 245 ∧ 128 ≤ Bl l 1 ∧ Bl l 1 < 192 ∧ 128 ≤ Bl l 2 ∧ Bl l 2 < 192 ∧ 128 ≤ Bl l 3 ∧ Bl l 3 < 192 ∧ 65536 ≤ rN l 4 ∧ rN l 4 ≤ 1114111
theorem rN_1 : rN l 1 = Bl l 0 := by unfold rN; rw [if_pos rfl]
theorem rN_2 : rN l 2 = (Bl l 0 - 192) * 64 + Bl l 1 - 128 := by unfold rN; rw [if_neg (by omega), if_pos rfl]
theorem rN_3 : rN l 3 = (Bl l 0 - 224) * 4096 + (Bl l 1 - 128) * 64 + Bl l 2 - 128 := by unfold rN; rw [if_neg (by omega), if_neg (by omega), if_pos rfl]
theorem rN_4 : rN l 4 = (Bl l 0 - 240) * 262144 + (Bl l 1 - 128) * 4096 + (Bl l 2 - 128) * 64 + Bl l 3 - 128 := by unfold rN; rw [if_neg (by omega), if_neg (by omega), if_neg (by omega)]

theorem putI_eq (r : Int) (xs : List Int) : putI r = xs ↔ (mayB r = false ∧ xs = []) ∨ (mayB r = true ∧ r < 128 ∧ xs = [r]) ∨ (mayB r = true ∧ 128 ≤ r ∧ r < 2048 ∧ xs = [192 + r / 64, 128 + r % 64]) ∨
    (mayB r = true ∧ 2048 ≤ r ∧ r < 65536 ∧ xs = [224 + r / 4096, 128 + r / 64 % 64, 128 + r % 64]) ∨ (mayB r = true ∧ 65536 ≤ r ∧ xs = [240 + r / 262144, 128 + r / 4096 % 64, 128 + r / 64 % 64, 128 + r % 64]) := by
  unfold putI
  cases hm : mayB r
  · simp [eq_comm]
  · simp only [Bool.true_eq_false, ↓reduceIte, false_and, false_or, true_and]
    by_cases h1 : r < 128
    · have : ¬ 128 ≤ r := by omega
      have : ¬ 2048 ≤ r := by omega
      have : ¬ 65536 ≤ r := by omega
      simp [*, eq_comm]
    · by_cases h2 : r < 2048
      · have : 128 ≤ r := by omega
        have : ¬ 2048 ≤ r := by omega
        have : ¬ 65536 ≤ r := by omega
        simp [*, eq_comm]
      · by_cases h3 : r < 65536
        · have : 2048 ≤ r := by omega
          have : ¬ 65536 ≤ r := by omega
          simp [*, eq_comm]
        · have : 65536 ≤ r := by omega
          simp [*, eq_comm]

theorem hit1 : hit l 1 = true ↔ ok1 l := by
  have h0 := Bl_lo l 0
  have h0' := Bl_hi l 0
  rw [hit_iff, ok1, rN_1]
  refine and_congr_right fun hl => ?_
  rw [numsOf_take 1 l hl, putI_eq, mayB_true, mayB_false]
  simp [List.range_succ]
  omega
theorem hit2 : hit l 2 = true ↔ ok2 l := by
  have h0 := Bl_lo l 0
  have h0' := Bl_hi l 0
  have h1 := Bl_lo l 1
  have h1' := Bl_hi l 1
  rw [hit_iff, ok2, rN_2]
  refine and_congr_right fun hl => ?_
  rw [numsOf_take 2 l hl, putI_eq, mayB_true, mayB_false]
  simp [List.range_succ]
  omega
theorem hit3 : hit l 3 = true ↔ ok3 l := by
  have h0 := Bl_lo l 0
  have h0' := Bl_hi l 0
  have h1 := Bl_lo l 1
  have h1' := Bl_hi l 1
  have h2 := Bl_lo l 2
  have h2' := Bl_hi l 2
  rw [hit_iff, ok3, rN_3]
  refine and_congr_right fun hl => ?_
  rw [numsOf_take 3 l hl, putI_eq, mayB_true, mayB_false]
  simp [List.range_succ]
  omega
theorem hit4 : hit l 4 = true ↔ ok4 l := by
  have h0 := Bl_lo l 0
  have h0' := Bl_hi l 0
  have h1 := Bl_lo l 1
  have h1' := Bl_hi l 1
  have h2 := Bl_lo l 2
  have h2' := Bl_hi l 2
  have h3 := Bl_lo l 3
  have h3' := Bl_hi l 3
  rw [hit_iff, ok4, rN_4]
  refine and_congr_right fun hl => ?_
  rw [numsOf_take 4 l hl, putI_eq, mayB_true, mayB_false]
  simp [List.range_succ]
  omega
end
end Go.Proofs.Ytgdkmipkgjkjjaa
