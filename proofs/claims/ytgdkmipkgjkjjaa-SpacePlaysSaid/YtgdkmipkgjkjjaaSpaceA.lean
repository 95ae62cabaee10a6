/- What is known of the memory of space.Spaces; the contract of tells. -/
import Derived.Test.YtgdkmipkgjkjjaaCharsG
import Derived.Deep.AppendLies
import Derived.Deep.RegionHeld3
import Derived.Deep.DrawnRows
namespace Go.Proofs.Ytgdkmipkgjkjjaa
open Go.RowKit

abbrev Bind := ByteArray × ByteArray × Int
/-- The cells of what prefixes stand for. -/
def flatB : List Bind → List Value
  | [] => []
  | (p, u, d) :: l => .string p :: .string u :: .int .i64 d :: flatB l
theorem flatB_append : ∀ (a b : List Bind), flatB (a ++ b) = flatB a ++ flatB b
  | [], b => rfl
  | (p, u, d) :: a, b => by simp [flatB, flatB_append a b]
theorem flatB_length : ∀ (l : List Bind), (flatB l).length = l.length * 3
  | [] => rfl
  | (p, u, d) :: l => by simp [flatB, flatB_length l]; omega
/-- The cells of attributes. -/
def flatA : List (ByteArray × ByteArray) → List Value
  | [] => []
  | (n, v) :: l => .string n :: .string v :: flatA l
theorem flatA_append : ∀ (a b : List (ByteArray × ByteArray)), flatA (a ++ b) = flatA a ++ flatA b
  | [], b => rfl
  | (n, v) :: a, b => by simp [flatA, flatA_append a b]
theorem flatA_length : ∀ (l : List (ByteArray × ByteArray)), (flatA l).length = l.length * 2
  | [] => rfl
  | (n, v) :: l => by simp [flatA, flatA_length l]; omega

/-- Block g is a Spaces: its row of binds begins block A. -/
structure Sp (w : World) (base g A cap : Nat) (bs : List Bind) (d : Int) : Prop where
  blk : w.heap[g]? = some (.cells #[.slice (some ⟨A, 0, none⟩) bs.length cap, .int .i64 d] 65 (0, 0))
  own : w.ownsRow base 62 3 (.slice (some ⟨A, 0, none⟩) bs.length cap) bs.length (flatB bs)
  hg : base ≤ g
  ne : A ≠ g

theorem tells_xmlns (n v : ByteArray) (w : World) (h : (n.toList == [120, 109, 108, 110, 115]) = true) :
    Calls Try.prog 43 #[.agg #[.string n, .string v]] w fun e w' => e = .returned (.tuple #[.string ⟨#[]⟩, .bool true]) ∧ Below w.heap.size w w' := by
  go_enter Try.func43, Try.ntmps43
  go_wp2
  go_ret2
  exact ⟨rfl, (Below.refl _ _).alloc (Nat.le_refl _) _⟩
theorem tells_pre (n v : ByteArray) (w : World) (h : (n.toList == [120, 109, 108, 110, 115]) = false) (h6 : 6 ≤ n.size) (hp : ((n.extract 0 6).toList == [120, 109, 108, 110, 115, 58]) = true) :
    Calls Try.prog 43 #[.agg #[.string n, .string v]] w fun e w' => e = .returned (.tuple #[.string (n.extract 6 n.size), .bool true]) ∧ Below w.heap.size w w' := by
  have h6' : (6 : Int) ≤ n.size := by omega
  go_enter Try.func43, Try.ntmps43
  go_wp2
  go_ret2
  exact ⟨rfl, (Below.refl _ _).alloc (Nat.le_refl _) _⟩
theorem tells_not (n v : ByteArray) (w : World) (h : (n.toList == [120, 109, 108, 110, 115]) = false) (h6 : n.size < 6) :
    Calls Try.prog 43 #[.agg #[.string n, .string v]] w fun e w' => e = .returned (.tuple #[.string n, .bool false]) ∧ Below w.heap.size w w' := by
  have h6' : (n.size : Int) < 6 := by omega
  go_enter Try.func43, Try.ntmps43
  go_wp2
  go_ret2
  exact ⟨rfl, (Below.refl _ _).alloc (Nat.le_refl _) _⟩
end Go.Proofs.Ytgdkmipkgjkjjaa
