/- The contract of utf.Put. -/
import Derived.Test.YtgdkmipkgjkjjaaUtfC
namespace Go.Proofs.Ytgdkmipkgjkjjaa
open Go.RowKit

theorem mk2 (w : World) : (Instr.makeSlice 36 (.int .i64 2) (.int .i64 2)).run Try.prog w = .ok (.slice (some ⟨w.heap.size, 0, none⟩) 2 2) (w.alloc (.cells #[.int .u8 0, .int .u8 0] 5)) := by kernel_rfl
theorem mk3 (w : World) : (Instr.makeSlice 36 (.int .i64 3) (.int .i64 3)).run Try.prog w = .ok (.slice (some ⟨w.heap.size, 0, none⟩) 3 3) (w.alloc (.cells #[.int .u8 0, .int .u8 0, .int .u8 0] 5)) := by kernel_rfl
theorem mk4 (w : World) : (Instr.makeSlice 36 (.int .i64 4) (.int .i64 4)).run Try.prog w = .ok (.slice (some ⟨w.heap.size, 0, none⟩) 4 4) (w.alloc (.cells #[.int .u8 0, .int .u8 0, .int .u8 0, .int .u8 0] 5)) := by kernel_rfl

section
variable (w : World) (o : Obj) (a b c d : Int)
theorem conv_row (W : World) (g : Nat) (ns : List Int) (h : W.heap[g]? = some (.cells (ns.map (Value.int .u8)).toArray 5 (0, 0))) :
    (convert 36 9 (.slice (some ⟨g, 0, none⟩) ns.length ns.length)).run Try.prog W = .ok (.string (strOfNums ns)) W :=
  run_convert_bytes_arg _ 36 5 Try.underlying36 Try.underlying5 g 0 ns.length ns.length ns rfl (fun i hi => by
    rw [cell_of_row W g (0 + i) _ _ _ h]
    simp [List.getD_eq_getElem?_getD, List.getElem?_eq_getElem hi]) 9 Try.underlying9
theorem row_under (cs : Array Value) (t : TypeId) : ((w.alloc (.cells cs t)).alloc o).heap[w.heap.size]? = some (.cells cs t (0, 0)) :=
  (Below.heap_alloc _ _ _ (by simp)).trans (heap_alloc_new w _)
theorem conv_under2 : (convert 36 9 (.slice (some ⟨w.heap.size, 0, none⟩) 2 2)).run Try.prog ((w.alloc (.cells #[.int .u8 a, .int .u8 b] 5)).alloc o) = .ok (.string (strOfNums [a, b])) ((w.alloc (.cells #[.int .u8 a, .int .u8 b] 5)).alloc o) := conv_row _ _ [a, b] (row_under w o _ _)
theorem conv_under3 : (convert 36 9 (.slice (some ⟨w.heap.size, 0, none⟩) 3 3)).run Try.prog ((w.alloc (.cells #[.int .u8 a, .int .u8 b, .int .u8 c] 5)).alloc o) = .ok (.string (strOfNums [a, b, c])) ((w.alloc (.cells #[.int .u8 a, .int .u8 b, .int .u8 c] 5)).alloc o) := conv_row _ _ [a, b, c] (row_under w o _ _)
theorem conv_under4 : (convert 36 9 (.slice (some ⟨w.heap.size, 0, none⟩) 4 4)).run Try.prog ((w.alloc (.cells #[.int .u8 a, .int .u8 b, .int .u8 c, .int .u8 d] 5)).alloc o) = .ok (.string (strOfNums [a, b, c, d])) ((w.alloc (.cells #[.int .u8 a, .int .u8 b, .int .u8 c, .int .u8 d] 5)).alloc o) := conv_row _ _ [a, b, c, d] (row_under w o _ _)
end
attribute [local go_sem] conv_new1 conv_under2 conv_under3 conv_under4 mk2 mk3 mk4

theorem i64_and_nat (a b : Nat) (ha : a < 9223372036854775808) (hb : b < 9223372036854775808) : bits .and .i64 (a : Int) (b : Int) = ((a &&& b : Nat) : Int) := by
  have hx : a &&& b < 2 ^ 63 := Nat.and_lt_two_pow _ (by omega)
  show IntKind.i64.wrap ((BitVec.ofInt 64 (a : Int) &&& BitVec.ofInt 64 (b : Int)).toNat : Int) = _
  rw [BitVec.toNat_and, ofInt_i64 a ha, ofInt_i64 b hb, IntKind.wrap_i64]
  omega
theorem and63 (x : Int) (h0 : 0 ≤ x) (h1 : x ≤ 1114111) : bits BinOp.and IntKind.i64 x 63 = x % 64 := by
  obtain ⟨n, rfl⟩ := Int.eq_ofNat_of_zero_le h0
  have h := i64_and_nat n 63 (by omega) (by omega)
  rw [Nat.and_two_pow_sub_one_eq_mod n 6] at h
  exact h.trans (by omega)
theorem or128 (x : Int) (h0 : 0 ≤ x) (h1 : x < 64) : bits BinOp.or IntKind.u8 128 x = 128 + x := by
  have h : ∀ y : Fin 64, bits BinOp.or IntKind.u8 128 ((y.val : Nat) : Int) = 128 + ((y.val : Nat) : Int) := by decide +kernel
  obtain ⟨n, rfl⟩ := Int.eq_ofNat_of_zero_le h0
  exact h ⟨n, by omega⟩
theorem or224 (x : Int) (h0 : 0 ≤ x) (h1 : x < 16) : bits BinOp.or IntKind.u8 224 x = 224 + x := by
  have h : ∀ y : Fin 16, bits BinOp.or IntKind.u8 224 ((y.val : Nat) : Int) = 224 + ((y.val : Nat) : Int) := by decide +kernel
  obtain ⟨n, rfl⟩ := Int.eq_ofNat_of_zero_le h0
  exact h ⟨n, by omega⟩
theorem or240 (x : Int) (h0 : 0 ≤ x) (h1 : x < 8) : bits BinOp.or IntKind.u8 240 x = 240 + x := by
  have h : ∀ y : Fin 8, bits BinOp.or IntKind.u8 240 ((y.val : Nat) : Int) = 240 + ((y.val : Nat) : Int) := by decide +kernel
  obtain ⟨n, rfl⟩ := Int.eq_ofNat_of_zero_le h0
  exact h ⟨n, by omega⟩

theorem uput_none (r : Int) (w : World) (h : mayB r = false) :
    Calls Try.prog 16 #[.int .i64 r] w fun e w' => e = .returned (.string (strOfNums [])) ∧ Below w.heap.size w w' := by
  have hz : sizeI r = 0 := by unfold sizeI; rw [if_pos h]
  clear h
  go_enter Try.func16, Try.ntmps16
  go_wp2_with (go_at_call 17; refine (size_any _ _).mono ?_; rintro e w' ⟨rfl, rfl⟩)
  go_ret
  exact ⟨rfl, Below.refl _ _⟩
theorem uput_one (r : Int) (w : World) (h0 : 0 ≤ r) (h1 : r < 128) :
    Calls Try.prog 16 #[.int .i64 r] w fun e w' => e = .returned (.string (strOfNums [r])) ∧ Below w.heap.size w w' := by
  have hz : sizeI r = 1 := by
    unfold sizeI
    rw [if_neg (by rw [mayB_true.2 (by omega)]; simp), if_pos h1]
  go_enter Try.func16, Try.ntmps16
  go_wp2_with (go_at_call 17; refine (size_any _ _).mono ?_; rintro e w' ⟨rfl, rfl⟩)
  go_ret
  exact ⟨rfl, (Below.refl _ _).alloc (Nat.le_refl _) _⟩
theorem uput_two (r : Int) (w : World) (h0 : 128 ≤ r) (h1 : r < 2048) :
    Calls Try.prog 16 #[.int .i64 r] w fun e w' => e = .returned (.string (strOfNums [192 + r / 64, 128 + r % 64])) ∧ Below w.heap.size w w' := by
  have hz : sizeI r = 2 := by
    unfold sizeI
    rw [if_neg (by rw [mayB_true.2 (by omega)]; simp), if_neg (by omega), if_pos h1]
  have a1 := and63 r (by omega) (by omega)
  have o1 := or128 (r % 64) (by omega) (by omega)
  go_enter Try.func16, Try.ntmps16
  go_wp2_with (go_at_call 17; refine (size_any _ _).mono ?_; rintro e w' ⟨rfl, rfl⟩)
  refine wp_loop_rounds 2 ?_
  rw [rounds_succ]
  go_wp2_with fail
  rw [rounds_succ]
  go_wp2_with fail
  go_ret
  exact ⟨rfl, ((Below.refl _ _).alloc (Nat.le_refl _) _).alloc (by simp) _⟩
theorem uput_three (r : Int) (w : World) (h0 : 2048 ≤ r) (h1 : r < 65536) (h2 : mayB r = true) :
    Calls Try.prog 16 #[.int .i64 r] w fun e w' => e = .returned (.string (strOfNums [224 + r / 4096, 128 + r / 64 % 64, 128 + r % 64])) ∧ Below w.heap.size w w' := by
  have hz : sizeI r = 3 := by
    unfold sizeI
    rw [if_neg (by rw [h2]; simp), if_neg (by omega), if_neg (by omega), if_pos h1]
  clear h2
  have a1 := and63 r (by omega) (by omega)
  have a2 := and63 (r / 64) (by omega) (by omega)
  have o1 := or128 (r % 64) (by omega) (by omega)
  have o2 := or128 (r / 64 % 64) (by omega) (by omega)
  have o3 := or224 (r / 64 / 64) (by omega) (by omega)
  go_enter Try.func16, Try.ntmps16
  go_wp2_with (go_at_call 17; refine (size_any _ _).mono ?_; rintro e w' ⟨rfl, rfl⟩)
  refine wp_loop_rounds 3 ?_
  rw [rounds_succ]
  go_wp2_with fail
  rw [rounds_succ]
  go_wp2_with fail
  rw [rounds_succ]
  go_wp2_with fail
  go_ret
  exact ⟨ret_str (by rw [show r / 64 / 64 = r / 4096 by omega]), ((Below.refl _ _).alloc (Nat.le_refl _) _).alloc (by simp) _⟩
theorem uput_four (r : Int) (w : World) (h0 : 65536 ≤ r) (h2 : mayB r = true) :
    Calls Try.prog 16 #[.int .i64 r] w fun e w' => e = .returned (.string (strOfNums [240 + r / 262144, 128 + r / 4096 % 64, 128 + r / 64 % 64, 128 + r % 64])) ∧ Below w.heap.size w w' := by
  have hz : sizeI r = 4 := by
    unfold sizeI
    rw [if_neg (by rw [h2]; simp), if_neg (by omega), if_neg (by omega), if_neg (by omega)]
  have h1 := (mayB_true.1 h2).2.1
  clear h2
  have a1 := and63 r (by omega) (by omega)
  have a2 := and63 (r / 64) (by omega) (by omega)
  have a3 := and63 (r / 64 / 64) (by omega) (by omega)
  have o1 := or128 (r % 64) (by omega) (by omega)
  have o2 := or128 (r / 64 % 64) (by omega) (by omega)
  have o3 := or128 (r / 64 / 64 % 64) (by omega) (by omega)
  have o4 := or240 (r / 64 / 64 / 64) (by omega) (by omega)
  go_enter Try.func16, Try.ntmps16
  go_wp2_with (go_at_call 17; refine (size_any _ _).mono ?_; rintro e w' ⟨rfl, rfl⟩)
  refine wp_loop_rounds 4 ?_
  rw [rounds_succ]
  go_wp2_with fail
  rw [rounds_succ]
  go_wp2_with fail
  rw [rounds_succ]
  go_wp2_with fail
  rw [rounds_succ]
  go_wp2_with fail
  go_ret
  exact ⟨ret_str (by rw [show r / 64 / 64 / 64 = r / 262144 by omega, show r / 64 / 64 = r / 4096 by omega]), ((Below.refl _ _).alloc (Nat.le_refl _) _).alloc (by simp) _⟩
theorem uput_any (r : Int) (w : World) :
    Calls Try.prog 16 #[.int .i64 r] w fun e w' => e = .returned (.string (strOfNums (putI r))) ∧ Below w.heap.size w w' := by
  unfold putI
  cases hm : mayB r
  · exact uput_none r w hm
  · obtain ⟨h0, h1, h2⟩ := mayB_true.1 hm
    rw [if_neg (by simp)]
    by_cases c1 : r < 128
    · rw [if_pos c1]; exact uput_one r w h0 c1
    · rw [if_neg c1]
      by_cases c2 : r < 2048
      · rw [if_pos c2]; exact uput_two r w (by omega) c2
      · rw [if_neg c2]
        by_cases c3 : r < 65536
        · rw [if_pos c3]; exact uput_three r w (by omega) c3 hm
        · rw [if_neg c3]; exact uput_four r w (by omega) hm
end Go.Proofs.Ytgdkmipkgjkjjaa
