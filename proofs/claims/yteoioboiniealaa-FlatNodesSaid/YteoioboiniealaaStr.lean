/- Strings out of bytes; masks. -/
import Derived.Test.YteoioboiniealaaKit
import Derived.OpenShut
import Derived.ShutString
import Derived.Laws.BytesArg
import Derived.Laws.BitsAllLaws
import Derived.Laws.BitsLemmas
namespace Go.Proofs.Yteoioboiniealaa
open Go.RowKit

section
variable (w : World) (a b : Int)
theorem cells_get (ns : List Int) (k : Nat) (i : Nat) (hi : i < ns.length) :
    (w.alloc (.cells (ns.map (Value.int .u8)).toArray k)).cell? ⟨w.heap.size, 0 + i, none⟩ = some (.int .u8 (ns.getD i 0)) := by
  have := cell_of_row (w.alloc (.cells (ns.map (Value.int .u8)).toArray k)) w.heap.size (0 + i) (ns.map (Value.int .u8)).toArray k (0, 0) (heap_alloc_new w _)
  rw [this]
  simp [List.getD_eq_getElem?_getD, List.getElem?_eq_getElem hi]
theorem conv_new (ns : List Int) : (convert 71 9 (.slice (some ⟨w.heap.size, 0, none⟩) ns.length ns.length)).run Try.prog (w.alloc (.cells (ns.map (Value.int .u8)).toArray 5)) = .ok (.string (strOfNums ns)) (w.alloc (.cells (ns.map (Value.int .u8)).toArray 5)) :=
  run_convert_bytes_arg _ 71 5 Try.underlying71 Try.underlying5 w.heap.size 0 ns.length ns.length ns rfl (fun i hi => cells_get w ns _ i hi) 9 Try.underlying9
theorem conv_new1 : (convert 71 9 (.slice (some ⟨w.heap.size, 0, none⟩) 1 1)).run Try.prog (w.alloc (.cells #[.int .u8 a] 5)) = .ok (.string (strOfNums [a])) (w.alloc (.cells #[.int .u8 a] 5)) := conv_new w [a]
theorem conv_new2 : (convert 71 9 (.slice (some ⟨w.heap.size, 0, none⟩) 2 2)).run Try.prog (w.alloc (.cells #[.int .u8 a, .int .u8 b] 5)) = .ok (.string (strOfNums [a, b])) (w.alloc (.cells #[.int .u8 a, .int .u8 b] 5)) := conv_new w [a, b]
end
theorem ret_str {a b : ByteArray} (h : a = b) : Ending.returned (.string a) = .returned (.string b) := by rw [h]
theorem ofInt_i64 (a : Nat) (ha : a < 9223372036854775808) : (BitVec.ofInt 64 (a : Int)).toNat = a := by
  rw [BitVec.ofInt_natCast, BitVec.toNat_ofNat]; exact Nat.mod_eq_of_lt (by omega)
theorem and_mask (n : Int) (m : Nat) (hm : m < 9223372036854775808) : 0 ≤ bits BinOp.and IntKind.i64 n (m : Int) ∧ bits BinOp.and IntKind.i64 n (m : Int) ≤ m := by
  have e : bits BinOp.and IntKind.i64 n (m : Int) = IntKind.i64.wrap ((BitVec.ofInt 64 n &&& BitVec.ofInt 64 (m : Int)).toNat : Int) := rfl
  have h : (BitVec.ofInt 64 n &&& BitVec.ofInt 64 (m : Int)).toNat ≤ m := by
    rw [BitVec.toNat_and, ofInt_i64 m hm]
    exact Nat.and_le_right
  rw [e, IntKind.wrap_i64]
  omega
theorem am1 (x : Int) : 0 ≤ bits BinOp.and IntKind.i64 x 1 ∧ bits BinOp.and IntKind.i64 x 1 ≤ 1 := and_mask x 1 (by omega)
theorem am2 (x : Int) : 0 ≤ bits BinOp.and IntKind.i64 x 2 ∧ bits BinOp.and IntKind.i64 x 2 ≤ 2 := and_mask x 2 (by omega)
theorem am3 (x : Int) : 0 ≤ bits BinOp.and IntKind.i64 x 3 ∧ bits BinOp.and IntKind.i64 x 3 ≤ 3 := and_mask x 3 (by omega)
theorem am7 (x : Int) : 0 ≤ bits BinOp.and IntKind.i64 x 7 ∧ bits BinOp.and IntKind.i64 x 7 ≤ 7 := and_mask x 7 (by omega)
theorem am15 (x : Int) : 0 ≤ bits BinOp.and IntKind.i64 x 15 ∧ bits BinOp.and IntKind.i64 x 15 ≤ 15 := and_mask x 15 (by omega)
theorem am255 (x : Int) : 0 ≤ bits BinOp.and IntKind.i64 x 255 ∧ bits BinOp.and IntKind.i64 x 255 ≤ 255 := and_mask x 255 (by omega)
theorem am65535 (x : Int) : 0 ≤ bits BinOp.and IntKind.i64 x 65535 ∧ bits BinOp.and IntKind.i64 x 65535 ≤ 65535 := and_mask x 65535 (by omega)
end Go.Proofs.Yteoioboiniealaa
