/- The walk of the law SpaceNames. -/
import Derived.Test.YtgdkmipkgjkjjaaSpaceLawNamesB
namespace Go.Proofs.Ytgdkmipkgjkjjaa
open Go.RowKit

theorem spaceNames_walk (a0 : ByteArray) (a1 : Int) (w0 : a0.size ≤ maxLen) (_w1 : (Lit.int .i64 a1).wf = true) (w : World) :
    Calls Try.prog 11 #[.string a0, .int .i64 a1] w fun e w' => e = .returned (.bool true) ∧ Below w.heap.size w w' := by
  obtain ⟨h0, h1⟩ := and_mask a1 3 (by omega)
  have h : bits BinOp.and IntKind.i64 a1 3 = 0 ∨ bits BinOp.and IntKind.i64 a1 3 = 1 ∨ bits BinOp.and IntKind.i64 a1 3 = 2 ∨ bits BinOp.and IntKind.i64 a1 3 = 3 := by
    have e : ((3 : Nat) : Int) = 3 := rfl
    rw [e] at h0 h1
    omega
  by_cases hsz : (20 : Int) < a0.size
  · rcases h with h | h | h | h
    · exact namesC_0 a0 a1 w0 hsz h w
    · exact namesC_1 a0 a1 w0 hsz h w
    · exact namesC_2 a0 a1 w0 hsz h w
    · exact namesC_3 a0 a1 w0 hsz h w
  · have hsz' : (a0.size : Int) ≤ 20 := by omega
    rcases h with h | h | h | h
    · exact namesU_0 a0 a1 w0 hsz' h w
    · exact namesU_1 a0 a1 w0 hsz' h w
    · exact namesU_2 a0 a1 w0 hsz' h w
    · exact namesU_3 a0 a1 w0 hsz' h w
end Go.Proofs.Ytgdkmipkgjkjjaa
