/- The contracts of galliardref01.Put and utf.Put. -/
import Derived.Test.YtgdkmipkgjkjjaaUtfB
import Derived.OpenShut
import Derived.ShutString
import Derived.Laws.BytesArg
import Derived.LoopN
namespace Go.Proofs.Ytgdkmipkgjkjjaa
open Go.RowKit

/-- A letter's bytes, as numbers. -/
@[irreducible] def putI (r : Int) : List Int :=
  if mayB r = false then []
  else if r < 128 then [r]
  else if r < 2048 then [192 + r / 64, 128 + r % 64]
  else if r < 65536 then [224 + r / 4096, 128 + r / 64 % 64, 128 + r % 64]
  else [240 + r / 262144, 128 + r / 4096 % 64, 128 + r / 64 % 64, 128 + r % 64]

section
variable (w : World) (a b c d : Int)
theorem cells_get (ns : List Int) (k : Nat) (i : Nat) (hi : i < ns.length) :
    (w.alloc (.cells (ns.map (Value.int .u8)).toArray k)).cell? ⟨w.heap.size, 0 + i, none⟩ = some (.int .u8 (ns.getD i 0)) := by
  have := cell_of_row (w.alloc (.cells (ns.map (Value.int .u8)).toArray k)) w.heap.size (0 + i) (ns.map (Value.int .u8)).toArray k (0, 0) (heap_alloc_new w _)
  rw [this]
  simp [List.getD_eq_getElem?_getD, List.getElem?_eq_getElem hi]
theorem conv_new (ns : List Int) : (convert 36 9 (.slice (some ⟨w.heap.size, 0, none⟩) ns.length ns.length)).run Try.prog (w.alloc (.cells (ns.map (Value.int .u8)).toArray 5)) = .ok (.string (strOfNums ns)) (w.alloc (.cells (ns.map (Value.int .u8)).toArray 5)) :=
  run_convert_bytes_arg _ 36 5 Try.underlying36 Try.underlying5 w.heap.size 0 ns.length ns.length ns rfl (fun i hi => cells_get w ns _ i hi) 9 Try.underlying9
theorem conv_new1 : (convert 36 9 (.slice (some ⟨w.heap.size, 0, none⟩) 1 1)).run Try.prog (w.alloc (.cells #[.int .u8 a] 5)) = .ok (.string (strOfNums [a])) (w.alloc (.cells #[.int .u8 a] 5)) := conv_new w [a]
theorem conv_new2 : (convert 36 9 (.slice (some ⟨w.heap.size, 0, none⟩) 2 2)).run Try.prog (w.alloc (.cells #[.int .u8 a, .int .u8 b] 5)) = .ok (.string (strOfNums [a, b])) (w.alloc (.cells #[.int .u8 a, .int .u8 b] 5)) := conv_new w [a, b]
theorem conv_new3 : (convert 36 9 (.slice (some ⟨w.heap.size, 0, none⟩) 3 3)).run Try.prog (w.alloc (.cells #[.int .u8 a, .int .u8 b, .int .u8 c] 5)) = .ok (.string (strOfNums [a, b, c])) (w.alloc (.cells #[.int .u8 a, .int .u8 b, .int .u8 c] 5)) := conv_new w [a, b, c]
theorem conv_new4 : (convert 36 9 (.slice (some ⟨w.heap.size, 0, none⟩) 4 4)).run Try.prog (w.alloc (.cells #[.int .u8 a, .int .u8 b, .int .u8 c, .int .u8 d] 5)) = .ok (.string (strOfNums [a, b, c, d])) (w.alloc (.cells #[.int .u8 a, .int .u8 b, .int .u8 c, .int .u8 d] 5)) := conv_new w [a, b, c, d]
end
attribute [local go_sem] conv_new1 conv_new2 conv_new3 conv_new4

theorem ret_str {a b : ByteArray} (h : a = b) : Ending.returned (.string a) = .returned (.string b) := by rw [h]

theorem rput_any (r : Int) (w : World) :
    Calls Try.prog 12 #[.int .i64 r] w fun e w' => e = .returned (.string (strOfNums (putI r))) ∧ Below w.heap.size w w' := by
  cases hm : mayB r
  · have e : putI r = [] := by unfold putI; rw [if_pos hm]
    have hm' := mayB_false.1 hm
    rw [e]
    go_enter Try.func12, Try.ntmps12
    go_wp2_with fail
    all_goals
      go_ret
      exact ⟨rfl, Below.refl _ _⟩
  · obtain ⟨h0, h1, h2⟩ := mayB_true.1 hm
    have e : putI r = if r < 128 then [r] else if r < 2048 then [192 + r / 64, 128 + r % 64] else if r < 65536 then [224 + r / 4096, 128 + r / 64 % 64, 128 + r % 64] else [240 + r / 262144, 128 + r / 4096 % 64, 128 + r / 64 % 64, 128 + r % 64] := by
      unfold putI; rw [if_neg (by simp [hm])]
    rw [e]
    clear hm e
    by_cases c1 : r < 128
    · rw [if_pos c1]
      have : 0 ≤ r ∧ r ≤ 1114111 ∧ r < 55296 := by omega
      go_enter Try.func12, Try.ntmps12
      go_wp2_with fail
      go_ret
      exact ⟨rfl, (Below.refl _ _).alloc (Nat.le_refl _) _⟩
    · rw [if_neg c1]
      by_cases c2 : r < 2048
      · rw [if_pos c2]
        have : 0 ≤ r ∧ r ≤ 1114111 ∧ r < 55296 := by omega
        go_enter Try.func12, Try.ntmps12
        go_wp2_with fail
        go_ret
        exact ⟨rfl, (Below.refl _ _).alloc (Nat.le_refl _) _⟩
      · rw [if_neg c2]
        by_cases c3 : r < 65536
        · rw [if_pos c3]
          rcases h2 with h2 | h2
          all_goals
            go_enter Try.func12, Try.ntmps12
            go_wp2_with fail
            go_ret
            exact ⟨rfl, (Below.refl _ _).alloc (Nat.le_refl _) _⟩
        · rw [if_neg c3]
          have h2' : 57343 < r := by omega
          clear h2
          go_enter Try.func12, Try.ntmps12
          go_wp2_with fail
          go_ret
          exact ⟨rfl, (Below.refl _ _).alloc (Nat.le_refl _) _⟩
end Go.Proofs.Ytgdkmipkgjkjjaa
