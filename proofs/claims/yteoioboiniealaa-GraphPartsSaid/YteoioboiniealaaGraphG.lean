/- The contract of graph.Used. -/
import Derived.Test.YteoioboiniealaaGraphE
namespace Go.Proofs.Yteoioboiniealaa
open Go.RowKit

/-- Has a node a participant? -/
def hasP (p : Int) (x : GN) : Bool := x.kind == 3 && (x.src == p || x.dst == p)

set_option maxHeartbeats 1000000 in
theorem used1_any (x : GN) (p : Int) {w : World} {a : Nat} (ha : w.cell? ⟨a, 0, none⟩ = some (.int .i64 p)) (hlt : a < w.heap.size) :
    Calls Try.prog 55 #[.agg #[.int .i64 x.kind, .string x.id, .int .i64 x.src, .int .i64 x.dst, .int .i64 x.msg, .int .i64 x.reply, .bool x.again], .pointer (some ⟨a, 0, none⟩)] w fun e w' => e = .returned (.bool (hasP p x)) ∧ Below w.heap.size w w' := by
  have hr : hasP p x = (x.kind == 3 && (x.src == p || x.dst == p)) := rfl
  have HR := Lib.hid hr
  clear hr
  obtain ⟨q0, q1, q2, q3, q4, q5, q6⟩ := x
  rcases h0 : (q0 == 3) with _ | _
  · have hf : hasP p ⟨q0, q1, q2, q3, q4, q5, q6⟩ = false := by rw [HR.out]; simp [h0]
    have HF := Lib.hid hf
    clear hf
    go_enter Try.func55, Try.ntmps55
    go_wp2_with fail
    try go_quiet (fail)
    try go_wp2_with fail
    go_ret
    exact ⟨by rw [HF.out]; rfl, by first | exact (Below.refl _ _).alloc (Nat.le_refl _) _ | exact below_drewN ((Below.refl _ _).alloc (Nat.le_refl _) _) _⟩
  · rcases h1 : (q2 == p) with _ | _
    · rcases h2 : (q3 == p) with _ | _
      all_goals
        have hf : hasP p ⟨q0, q1, q2, q3, q4, q5, q6⟩ = (q3 == p) := by rw [HR.out]; simp [h0, h1]
        rw [h2] at hf
        have HF := Lib.hid hf
        clear hf
        go_enter Try.func55, Try.ntmps55
        go_wp2_with fail
        try go_quiet (fail)
        try go_wp2_with fail
        go_ret
        exact ⟨by rw [HF.out]; rfl, by first | exact (Below.refl _ _).alloc (Nat.le_refl _) _ | exact below_drewN ((Below.refl _ _).alloc (Nat.le_refl _) _) _⟩
    · have hf : hasP p ⟨q0, q1, q2, q3, q4, q5, q6⟩ = true := by rw [HR.out]; simp [h0, h1]
      have HF := Lib.hid hf
      clear hf
      go_enter Try.func55, Try.ntmps55
      go_wp2_with fail
      try go_quiet (fail)
      try go_wp2_with fail
      go_ret
      exact ⟨by rw [HF.out]; rfl, by first | exact (Below.refl _ _).alloc (Nat.le_refl _) _ | exact below_drewN ((Below.refl _ _).alloc (Nat.le_refl _) _) _⟩
end Go.Proofs.Yteoioboiniealaa
