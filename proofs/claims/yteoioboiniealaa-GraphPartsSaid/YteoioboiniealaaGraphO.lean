/- Plain laws for GraphParts. -/
import Derived.Test.YteoioboiniealaaGraphN
namespace Go.Proofs.Yteoioboiniealaa
open Go.RowKit

theorem cntN_cons {α : Type} (p : α → Bool) (x : α) (l : List α) (k : Nat) : cntN p (x :: l) (k + 1) = (if p x = true then 1 else 0) + cntN p l k := by
  unfold cntN
  rw [List.take_succ_cons, List.filter_cons]
  split
  · simp; omega
  · simp
theorem placesFrom_at {α : Type} (p : α → Bool) : ∀ (l : List α) (k n : Nat) (h : k < l.length), p l[k] = true → (placesFrom p l n)[cntN p l k]? = some ((n + k : Nat) : Int)
  | x :: l, 0, n, _, hp => by
    have hp : p x = true := hp
    rw [placesFrom, if_pos hp]
    simp [cntN]
  | x :: l, k + 1, n, h, hp => by
    have ih := placesFrom_at p l k (n + 1) (by simpa using h) (by simpa using hp)
    rw [cntN_cons, placesFrom]
    split
    · rw [Nat.add_comm 1, List.getElem?_cons_succ, ih]
      congr 2
      omega
    · rw [Nat.zero_add, ih]
      congr 2
      omega
theorem cntN_lt {α : Type} (p : α → Bool) (l : List α) (k : Nat) (h : k < l.length) (hp : p l[k] = true) : cntN p l k < (placesFrom p l 0).length := by
  have := placesFrom_at p l k 0 h hp
  exact (List.getElem?_eq_some_iff.1 this).1
theorem index_low {α : Type} (p : α → Bool) (x : Int) : ∀ (l : List α) (n m : Nat), x < n → indexFrom x (placesFrom p l n) m = -1
  | [], n, m, _ => rfl
  | y :: l, n, m, h => by
    rw [placesFrom]
    split
    · rw [indexFrom, if_neg (by simp; omega)]
      exact index_low p x l (n + 1) (m + 1) (by omega)
    · exact index_low p x l (n + 1) m (by omega)
theorem index_high {α : Type} (p : α → Bool) (x : Int) : ∀ (l : List α) (n m : Nat), ((n + l.length : Nat) : Int) ≤ x → indexFrom x (placesFrom p l n) m = -1
  | [], n, m, _ => rfl
  | y :: l, n, m, h => by
    simp only [List.length_cons] at h
    rw [placesFrom]
    split
    · rw [indexFrom, if_neg (by simp; omega)]
      exact index_high p x l (n + 1) (m + 1) (by omega)
    · exact index_high p x l (n + 1) m (by omega)
theorem index_at {α : Type} (p : α → Bool) : ∀ (l : List α) (k n m : Nat) (h : k < l.length), indexFrom ((n + k : Nat) : Int) (placesFrom p l n) m = if p l[k] = true then ((m + cntN p l k : Nat) : Int) else -1
  | x :: l, 0, n, m, _ => by
    rw [placesFrom]
    show _ = if p x = true then _ else _
    split
    · rw [indexFrom, if_pos (by simp)]
      simp [cntN]
    · exact index_low p _ l (n + 1) m (by omega)
  | x :: l, k + 1, n, m, h => by
    have ih := fun m => index_at p l k (n + 1) m (by simpa using h)
    rw [placesFrom, cntN_cons]
    simp only [List.getElem_cons_succ]
    rw [show n + (k + 1) = n + 1 + k by omega]
    split
    · rw [indexFrom, if_neg (by simp; omega), ih (m + 1)]
      split
      · congr 1; omega
      · rfl
    · rw [ih m, Nat.zero_add]
/-- The place of a task that waits. -/
theorem busyI_at (ns : List GN) (ne k : Nat) (h : k < ns.length) : busyI ns ne k = if isTask ns[k] = true then (ne : Int) + 2 * (cntN isTask ns k : Nat) else -1 := by
  have := index_at isTask ns k 0 0 h
  rw [Nat.zero_add, Nat.zero_add] at this
  unfold busyI
  rw [this]
  split
  · rw [if_neg (by omega)]
  · rw [if_pos (by omega)]
theorem busyI_low (ns : List GN) (ne : Nat) : busyI ns ne (-1) = -1 := by
  unfold busyI
  rw [index_low isTask (-1) ns 0 0 (by omega), if_pos (by omega)]
theorem busyI_high (ns : List GN) (ne : Nat) (x : Int) (h : (ns.length : Int) ≤ x) : busyI ns ne x = -1 := by
  unfold busyI
  rw [index_high isTask x ns 0 0 (by omega), if_pos (by omega)]
theorem findFrom_snoc {α : Type} (p : α → Bool) (x : α) : ∀ (l : List α) (n : Nat), findFrom p (l ++ [x]) n = if findFrom p l n < 0 then (if p x = true then ((n + l.length : Nat) : Int) else -1) else findFrom p l n
  | [], n => by simp [findFrom]
  | y :: l, n => by
    rw [List.cons_append, findFrom, findFrom]
    split
    · rw [if_neg (by omega)]
    · rw [findFrom_snoc p x l (n + 1), List.length_cons]
      rw [show n + 1 + l.length = n + (l.length + 1) by omega]
theorem findFrom_take {α : Type} (p : α → Bool) (l : List α) (k : Nat) (h : k < l.length) : findFrom p (l.take (k + 1)) 0 = if findFrom p (l.take k) 0 < 0 then (if p l[k] = true then (k : Int) else -1) else findFrom p (l.take k) 0 := by
  rw [List.take_succ_eq_append_getElem h, findFrom_snoc, List.length_take_of_le (by omega), Nat.zero_add]
theorem any_take {α : Type} (p : α → Bool) (l : List α) (k : Nat) (h : k < l.length) : (l.take (k + 1)).any p = ((l.take k).any p || p l[k]) := by
  rw [List.take_succ_eq_append_getElem h, List.any_append]
  simp
theorem findFrom_bd {α : Type} (p : α → Bool) : ∀ (l : List α) (n : Nat), findFrom p l n < n + l.length ∨ findFrom p l n = -1
  | [], n => .inr rfl
  | x :: l, n => by
    rw [findFrom]
    split
    · left; simp; omega
    · have := findFrom_bd p l (n + 1)
      simp only [List.length_cons]
      omega
/-- Which participants tasks among the first nodes have, as cells. -/
def usedC (ns : List GN) (k : Nat) : Array Value := #[.bool ((ns.take k).any (hasP 0)), .bool ((ns.take k).any (hasP 1)), .bool ((ns.take k).any (hasP 2))]
end Go.Proofs.Yteoioboiniealaa
