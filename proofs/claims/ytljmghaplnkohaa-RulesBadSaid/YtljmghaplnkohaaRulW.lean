/- The walk of the law RulesBad: its ways joined. -/
import Derived.Test.YtljmghaplnkohaaRulWa
import Derived.Test.YtljmghaplnkohaaRulWb
import Derived.Test.YtljmghaplnkohaaRulWc
namespace Go.Proofs.Ytljmghaplnkohaa
open Go.RowKit
theorem rulesBad_walk (A0 : Option Addr) (c0 : Nat) (x0 : List Int) (a1 a2 : Int) (w : World) (m0 : x0.length ≤ maxLen) (h0 : IntsAt w A0 x0) (_w1 : (Lit.int .i64 a1).wf = true) (_w2 : (Lit.int .i64 a2).wf = true) :
    Calls Try.prog 8 #[.slice A0 x0.length c0, .int .i64 a1, .int .i64 a2] w fun e w' => e = .returned (.bool true) ∧ Below w.heap.size w w' := by
  obtain ⟨q, hq, hq12⟩ := am12 a1
  have hqs : q = 0 ∨ q = 1 ∨ q = 2 ∨ q = 3 ∨ q = 4 ∨ q = 5 ∨ q = 6 ∨ q = 7 ∨ q = 8 ∨ q = 9 ∨ q = 10 ∨ q = 11 := by omega
  rcases hqs with h | h | h | h | h | h | h | h | h | h | h | h
  · exact rulesBad_waya A0 c0 x0 a1 a2 w m0 h0 q hq (by simp [h])
  · exact rulesBad_waya A0 c0 x0 a1 a2 w m0 h0 q hq (by simp [h])
  · exact rulesBad_waya A0 c0 x0 a1 a2 w m0 h0 q hq (by simp [h])
  · exact rulesBad_waya A0 c0 x0 a1 a2 w m0 h0 q hq (by simp [h])
  · exact rulesBad_waya A0 c0 x0 a1 a2 w m0 h0 q hq (by simp [h])
  · exact rulesBad_wayb A0 c0 x0 a1 a2 w m0 h0 q hq (by simp [h])
  · exact rulesBad_wayb A0 c0 x0 a1 a2 w m0 h0 q hq (by simp [h])
  · exact rulesBad_wayc A0 c0 x0 a1 a2 w m0 h0 q hq (by simp [h])
  · exact rulesBad_wayb A0 c0 x0 a1 a2 w m0 h0 q hq (by simp [h])
  · exact rulesBad_wayb A0 c0 x0 a1 a2 w m0 h0 q hq (by simp [h])
  · exact rulesBad_waya A0 c0 x0 a1 a2 w m0 h0 q hq (by simp [h])
  · exact rulesBad_wayc A0 c0 x0 a1 a2 w m0 h0 q hq (by simp [h])
end Go.Proofs.Ytljmghaplnkohaa
