/- Numbers as digits, and back. -/
import Derived.Test.YtgdkmipkgjkjjaaDoorEntP
namespace Go.Proofs.YtgdkmipkgjkjjaaDoor
open Go.RowKit

/-- A number's digits. -/
def numF (k : Nat) : List UInt8 := if _h : k < 10 then [UInt8.ofNat (48 + k)] else numF (k / 10) ++ [UInt8.ofNat (48 + k % 10)]
termination_by k
decreasing_by omega
def hexC (d : Nat) : UInt8 := if d < 10 then UInt8.ofNat (48 + d) else UInt8.ofNat (87 + d)
/-- A number's hexadecimal digits. -/
def hexF (k : Nat) : List UInt8 := if _h : k < 16 then [hexC k] else hexF (k / 16) ++ [hexC (k % 16)]
termination_by k
decreasing_by omega
theorem numF_small {k : Nat} (h : k < 10) : numF k = [UInt8.ofNat (48 + k)] := by rw [numF, dif_pos h]
theorem numF_more {k : Nat} (h : ¬ k < 10) : numF k = numF (k / 10) ++ [UInt8.ofNat (48 + k % 10)] := by
  conv => lhs; rw [numF, dif_neg h]
theorem hexF_small {k : Nat} (h : k < 16) : hexF k = [hexC k] := by rw [hexF, dif_pos h]
theorem hexF_more {k : Nat} (h : ¬ k < 16) : hexF k = hexF (k / 16) ++ [hexC (k % 16)] := by
  conv => lhs; rw [hexF, dif_neg h]
theorem digits_cons (b : Int) (c : UInt8) (l : List UInt8) (n : Int) : digitsF b (c :: l) n = if digitF (c.toNat : Int) b < 0 then none else digitsF b l (n * b + digitF (c.toNat : Int) b) := rfl
theorem digits_append (b : Int) : ∀ (l m : List UInt8) (n : Int), digitsF b (l ++ m) n = (digitsF b l n).bind fun x => digitsF b m x
  | [], _, _ => rfl
  | c :: l, m, n => by
    rw [List.cons_append, digits_cons, digits_cons]
    by_cases h : digitF (c.toNat : Int) b < 0
    · rw [if_pos h, if_pos h]; rfl
    · rw [if_neg h, if_neg h]; exact digits_append b l m _
theorem digit_dec {d : Nat} (h : d < 10) : digitF ((UInt8.ofNat (48 + d)).toNat : Int) 10 = d := by
  have : d = 0 ∨ d = 1 ∨ d = 2 ∨ d = 3 ∨ d = 4 ∨ d = 5 ∨ d = 6 ∨ d = 7 ∨ d = 8 ∨ d = 9 := by omega
  rcases this with rfl | rfl | rfl | rfl | rfl | rfl | rfl | rfl | rfl | rfl <;> decide +kernel
theorem digit_hex {d : Nat} (h : d < 16) : digitF ((hexC d).toNat : Int) 16 = d := by
  have : d = 0 ∨ d = 1 ∨ d = 2 ∨ d = 3 ∨ d = 4 ∨ d = 5 ∨ d = 6 ∨ d = 7 ∨ d = 8 ∨ d = 9 ∨ d = 10 ∨ d = 11 ∨ d = 12 ∨ d = 13 ∨ d = 14 ∨ d = 15 := by omega
  rcases this with rfl | rfl | rfl | rfl | rfl | rfl | rfl | rfl | rfl | rfl | rfl | rfl | rfl | rfl | rfl | rfl <;> decide +kernel
theorem digits_num : ∀ (m k : Nat), k ≤ m → digitsF 10 (numF k) 0 = some (k : Int)
  | m, k, hm => by
    by_cases h : k < 10
    · rw [numF_small h]
      have := digit_dec h
      unfold digitsF
      rw [this, if_neg (by omega)]
      simp [digitsF]
    · cases m with
      | zero => omega
      | succ m =>
        have h2 := digit_dec (show k % 10 < 10 by omega)
        rw [numF_more h, digits_append, digits_num m (k / 10) (by omega)]
        show digitsF 10 [UInt8.ofNat (48 + k % 10)] _ = _
        unfold digitsF
        rw [h2, if_neg (by omega)]
        simp [digitsF]
        omega
theorem digits_hex : ∀ (m k : Nat), k ≤ m → digitsF 16 (hexF k) 0 = some (k : Int)
  | m, k, hm => by
    by_cases h : k < 16
    · rw [hexF_small h]
      have := digit_hex h
      unfold digitsF
      rw [this, if_neg (by omega)]
      simp [digitsF]
    · cases m with
      | zero => omega
      | succ m =>
        have h2 := digit_hex (show k % 16 < 16 by omega)
        rw [hexF_more h, digits_append, digits_hex m (k / 16) (by omega)]
        show digitsF 16 [hexC (k % 16)] _ = _
        unfold digitsF
        rw [h2, if_neg (by omega)]
        simp [digitsF]
        omega
theorem numF_len : ∀ (m k : Nat), k < 10 ^ (m + 1) → (numF k).length ≤ m + 1
  | 0, k, h => by rw [numF_small (by omega)]; simp
  | m + 1, k, h => by
    by_cases h1 : k < 10
    · rw [numF_small h1]; simp
    · have := numF_len m (k / 10) (by rw [Nat.pow_succ] at h; omega)
      rw [numF_more h1, List.length_append]
      simp
      omega
theorem hexF_len : ∀ (m k : Nat), k < 16 ^ (m + 1) → (hexF k).length ≤ m + 1
  | 0, k, h => by rw [hexF_small (by omega)]; simp
  | m + 1, k, h => by
    by_cases h1 : k < 16
    · rw [hexF_small h1]; simp
    · have := hexF_len m (k / 16) (by rw [Nat.pow_succ] at h; omega)
      rw [hexF_more h1, List.length_append]
      simp
      omega
theorem dec_char {d : Nat} (h : d < 10) : UInt8.ofNat (48 + d) ≠ 120 ∧ UInt8.ofNat (48 + d) ≠ 59 := by
  have : d = 0 ∨ d = 1 ∨ d = 2 ∨ d = 3 ∨ d = 4 ∨ d = 5 ∨ d = 6 ∨ d = 7 ∨ d = 8 ∨ d = 9 := by omega
  rcases this with rfl | rfl | rfl | rfl | rfl | rfl | rfl | rfl | rfl | rfl <;> decide +kernel
theorem numF_chars : ∀ (m k : Nat), k ≤ m → ∀ c ∈ numF k, c ≠ 120 ∧ c ≠ 59
  | m, k, hm => by
    by_cases h : k < 10
    · rw [numF_small h]
      intro c hc
      rw [List.mem_singleton.1 hc]
      exact dec_char h
    · cases m with
      | zero => omega
      | succ m =>
        intro c hc
        rw [numF_more h, List.mem_append] at hc
        rcases hc with hc | hc
        · exact numF_chars m (k / 10) (by omega) c hc
        · rw [List.mem_singleton.1 hc]
          exact dec_char (by omega)
theorem numF_ne (k : Nat) : numF k ≠ [] := by
  by_cases h : k < 10
  · rw [numF_small h]; simp
  · rw [numF_more h]; simp
theorem hexF_ne (k : Nat) : hexF k ≠ [] := by
  by_cases h : k < 16
  · rw [hexF_small h]; simp
  · rw [hexF_more h]; simp
/-- A letter that may stand, or 0. -/
def letK (k : Nat) : Int := if letterB (k : Int) = true then (k : Int) else 0
theorem number_num {k : Nat} (h : k ≤ 2097151) : numberF (numF k) = letK k := by
  have h1 := digits_num k k (Nat.le_refl _)
  have h2 := numF_len 6 k (by omega)
  have h3 := numF_chars k k (Nat.le_refl _)
  have h4 := numF_ne k
  cases hl : numF k with
  | nil => exact absurd hl h4
  | cons c l =>
    rw [hl] at h1 h2 h3
    unfold numberF
    simp only
    rw [if_neg (h3 c (by simp)).1]
    unfold numberB
    rw [if_neg (by simp at h2 ⊢; omega), h1]
    rfl
theorem one_num {k : Nat} (h : k ≤ 2097151) : oneF (35 :: numF k) = letK k := by
  unfold oneF
  simp only [↓reduceIte]
  exact number_num h
theorem one_hex {k : Nat} (h : k ≤ 2097151) : oneF (35 :: 120 :: hexF k) = letK k := by
  unfold oneF
  simp only [↓reduceIte]
  unfold numberF
  simp only [↓reduceIte]
  unfold numberB
  have h2 := hexF_len 7 k (by omega)
  have h4 := hexF_ne k
  rw [if_neg (by intro e; rcases e with e | e; exact h4 e; omega), digits_hex k k (Nat.le_refl _)]
  rfl
theorem index_free : ∀ (q r : List UInt8), (∀ c ∈ q, c ≠ 59) → Lib.indexByte (q ++ 59 :: r) 59 = q.length
  | [], r, _ => by simp [Lib.indexByte]
  | c :: q, r, h => by
    have ih := index_free q r (fun x hx => h x (by simp [hx]))
    have hc : (c == 59) = false := by simpa using h c (by simp)
    show Lib.indexByte (c :: (q ++ 59 :: r)) 59 = _
    unfold Lib.indexByte
    rw [hc, ih]
    simp
theorem open_num {k : Nat} (h : k ≤ 2097151) : openF ([38, 35] ++ numF k ++ [59]) = if letterB (k : Int) = true then (Lib.bytesOf (putI (k : Int)), -1) else ([], 0) := by
  have hq : ∀ c ∈ (35 :: numF k), c ≠ 59 := by
    intro c hc
    rcases List.mem_cons.1 hc with rfl | hc
    · decide
    · exact (numF_chars k k (Nat.le_refl _) c hc).2
  have hi : Lib.indexByte (38 :: ((35 :: numF k) ++ 59 :: [])) 59 = (((35 :: numF k).length : Nat) : Int) + 1 := by
    have := index_free (38 :: 35 :: numF k) [] (fun c hc => by
      rcases List.mem_cons.1 hc with rfl | hc
      · decide
      · exact hq c hc)
    rw [show 38 :: ((35 :: numF k) ++ 59 :: []) = (38 :: 35 :: numF k) ++ 59 :: [] from rfl, this]
    simp
  have e : [38, 35] ++ numF k ++ [59] = 38 :: ((35 :: numF k) ++ 59 :: []) := by simp
  have ht : ((35 :: numF k) ++ 59 :: []).take (35 :: numF k).length = 35 :: numF k := List.take_left
  have hd : ((35 :: numF k) ++ 59 :: []).drop ((35 :: numF k).length + 1) = [] := List.drop_eq_nil_of_le (by simp)
  unfold openF
  rw [e]
  cases hl : letterB (k : Int)
  · rw [openG_none hi (by rw [ht, one_num h]; unfold letK; rw [hl]; rfl)]
    simp
  · have hk : letK k = k := by unfold letK; rw [hl]; rfl
    have h0 : k ≠ 0 := fun e0 => by subst e0; revert hl; decide +kernel
    rw [openG_some hi (by rw [ht, one_num h, hk]; omega), hd, ht, one_num h, hk, openG_nil]
    rfl
end Go.Proofs.YtgdkmipkgjkjjaaDoor
