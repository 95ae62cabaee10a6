/- The contract of graph.node. -/
import Derived.Test.YteoioboiniealaaGraphE
namespace Go.Proofs.Yteoioboiniealaa
open Go.RowKit

/-- May a node be? -/
@[irreducible] def nodeB (np nm : Nat) (x : GN) : Bool :=
  decide (1 ≤ x.kind ∧ x.kind ≤ 6 ∧ (x.kind = 3 → 0 ≤ x.src ∧ x.src < np ∧ 0 ≤ x.dst ∧ x.dst < np ∧ x.src ≠ x.dst ∧ 0 ≤ x.msg ∧ x.msg < nm ∧ -1 ≤ x.reply ∧ x.reply < nm))
theorem nodeB_iff {np nm : Nat} {x : GN} : nodeB np nm x = true ↔ (1 ≤ x.kind ∧ x.kind ≤ 6 ∧ (x.kind = 3 → 0 ≤ x.src ∧ x.src < np ∧ 0 ≤ x.dst ∧ x.dst < np ∧ x.src ≠ x.dst ∧ 0 ≤ x.msg ∧ x.msg < nm ∧ -1 ≤ x.reply ∧ x.reply < nm)) := by unfold nodeB; rw [decide_eq_true_eq]
theorem nodeB_no {np nm : Nat} {x : GN} (h : ¬ (1 ≤ x.kind ∧ x.kind ≤ 6 ∧ (x.kind = 3 → 0 ≤ x.src ∧ x.src < np ∧ 0 ≤ x.dst ∧ x.dst < np ∧ x.src ≠ x.dst ∧ 0 ≤ x.msg ∧ x.msg < nm ∧ -1 ≤ x.reply ∧ x.reply < nm))) : nodeB np nm x = false := by
  cases hb : nodeB np nm x
  · rfl
  · exact absurd (nodeB_iff.1 hb) h

set_option maxHeartbeats 4000000 in
theorem node_any {w : World} {AP AM AN AE : Option Addr} {cP cM cN cE np nm nn ne : Nat} (x : GN) :
    Calls Try.prog 41 #[.agg #[.slice AP np cP, .slice AM nm cM, .slice AN nn cN, .slice AE ne cE], .agg #[.int .i64 x.kind, .string x.id, .int .i64 x.src, .int .i64 x.dst, .int .i64 x.msg, .int .i64 x.reply, .bool x.again]] w fun e w' => e = .returned (.bool (nodeB np nm x)) ∧ Below w.heap.size w w' := by
  obtain ⟨q0, q1, q2, q3, q4, q5, q6⟩ := x
  by_cases hk : q0 < 1 ∨ 6 < q0
  · have hf := nodeB_no (np := np) (nm := nm) (x := ⟨q0, q1, q2, q3, q4, q5, q6⟩) (by simp; omega)
    have Hf := Lib.hid hf
    clear hf
    rcases hk with hk | hk
    · go_enter Try.func41, Try.ntmps41
      go_wp2
      go_ret
      exact ⟨by rw [Hf.out]; rfl, ((Below.refl _ _).alloc (Nat.le_refl _) _).alloc (by simp) _⟩
    · have hk' : ¬ q0 < 1 := by omega
      go_enter Try.func41, Try.ntmps41
      go_wp2
      go_ret
      exact ⟨by rw [Hf.out]; rfl, ((Below.refl _ _).alloc (Nat.le_refl _) _).alloc (by simp) _⟩
  · have k1 : ¬ q0 < 1 := by omega
    have k2 : ¬ 6 < q0 := by omega
    by_cases h3 : q0 = 3
    · subst h3
      clear hk k1 k2
      by_cases hc0 : q2 < 0
      · have hf := nodeB_no (np := np) (nm := nm) (x := ⟨3, q1, q2, q3, q4, q5, q6⟩) (by simp; omega)
        have Hf := Lib.hid hf
        clear hf
        go_enter Try.func41, Try.ntmps41
        go_wp2
        go_ret
        exact ⟨by rw [Hf.out]; rfl, ((Below.refl _ _).alloc (Nat.le_refl _) _).alloc (by simp) _⟩
      · have hn0 : 0 ≤ q2 := by omega
        clear hc0
        by_cases hc1 : (np : Int) ≤ q2
        · have hf := nodeB_no (np := np) (nm := nm) (x := ⟨3, q1, q2, q3, q4, q5, q6⟩) (by simp; omega)
          have Hf := Lib.hid hf
          clear hf
          go_enter Try.func41, Try.ntmps41
          go_wp2
          go_ret
          exact ⟨by rw [Hf.out]; rfl, ((Below.refl _ _).alloc (Nat.le_refl _) _).alloc (by simp) _⟩
        · have hn1 : q2 < np := by omega
          clear hc1
          by_cases hc2 : q3 < 0
          · have hf := nodeB_no (np := np) (nm := nm) (x := ⟨3, q1, q2, q3, q4, q5, q6⟩) (by simp; omega)
            have Hf := Lib.hid hf
            clear hf
            go_enter Try.func41, Try.ntmps41
            go_wp2
            go_ret
            exact ⟨by rw [Hf.out]; rfl, ((Below.refl _ _).alloc (Nat.le_refl _) _).alloc (by simp) _⟩
          · have hn2 : 0 ≤ q3 := by omega
            clear hc2
            by_cases hc3 : (np : Int) ≤ q3
            · have hf := nodeB_no (np := np) (nm := nm) (x := ⟨3, q1, q2, q3, q4, q5, q6⟩) (by simp; omega)
              have Hf := Lib.hid hf
              clear hf
              go_enter Try.func41, Try.ntmps41
              go_wp2
              go_ret
              exact ⟨by rw [Hf.out]; rfl, ((Below.refl _ _).alloc (Nat.le_refl _) _).alloc (by simp) _⟩
            · have hn3 : q3 < np := by omega
              clear hc3
              rcases hc4 : (q2 != q3) with _ | _
              · have hf := nodeB_no (np := np) (nm := nm) (x := ⟨3, q1, q2, q3, q4, q5, q6⟩) (by have e : q2 = q3 := (by simpa using hc4); simp; omega)
                have Hf := Lib.hid hf
                clear hf
                go_enter Try.func41, Try.ntmps41
                go_wp2
                go_ret
                exact ⟨by rw [Hf.out]; rfl, ((Below.refl _ _).alloc (Nat.le_refl _) _).alloc (by simp) _⟩
              · have he : q2 ≠ q3 := by simpa using hc4
                have He := Lib.hid he
                clear he
                by_cases hc5 : q4 < 0
                · have hf := nodeB_no (np := np) (nm := nm) (x := ⟨3, q1, q2, q3, q4, q5, q6⟩) (by simp; omega)
                  have Hf := Lib.hid hf
                  clear hf
                  go_enter Try.func41, Try.ntmps41
                  go_wp2
                  go_ret
                  exact ⟨by rw [Hf.out]; rfl, ((Below.refl _ _).alloc (Nat.le_refl _) _).alloc (by simp) _⟩
                · have hn5 : 0 ≤ q4 := by omega
                  clear hc5
                  by_cases hc6 : (nm : Int) ≤ q4
                  · have hf := nodeB_no (np := np) (nm := nm) (x := ⟨3, q1, q2, q3, q4, q5, q6⟩) (by simp; omega)
                    have Hf := Lib.hid hf
                    clear hf
                    go_enter Try.func41, Try.ntmps41
                    go_wp2
                    go_ret
                    exact ⟨by rw [Hf.out]; rfl, ((Below.refl _ _).alloc (Nat.le_refl _) _).alloc (by simp) _⟩
                  · have hn6 : q4 < nm := by omega
                    clear hc6
                    by_cases hc7 : q5 < -1
                    · have hf := nodeB_no (np := np) (nm := nm) (x := ⟨3, q1, q2, q3, q4, q5, q6⟩) (by simp; omega)
                      have Hf := Lib.hid hf
                      clear hf
                      go_enter Try.func41, Try.ntmps41
                      go_wp2
                      go_ret
                      exact ⟨by rw [Hf.out]; rfl, ((Below.refl _ _).alloc (Nat.le_refl _) _).alloc (by simp) _⟩
                    · have hn7 : -1 ≤ q5 := by omega
                      clear hc7
                      by_cases hc8 : (nm : Int) ≤ q5
                      · have hf := nodeB_no (np := np) (nm := nm) (x := ⟨3, q1, q2, q3, q4, q5, q6⟩) (by simp; omega)
                        have Hf := Lib.hid hf
                        clear hf
                        go_enter Try.func41, Try.ntmps41
                        go_wp2
                        go_ret
                        exact ⟨ret_bool (by rw [Hf.out] <;> (simp; omega)), ((Below.refl _ _).alloc (Nat.le_refl _) _).alloc (by simp) _⟩
                      · have hn8 : q5 < nm := by omega
                        clear hc8
                        have hf := nodeB_iff (np := np) (nm := nm) (x := ⟨3, q1, q2, q3, q4, q5, q6⟩).2 (by have := He.out; simp; omega)
                        have Hf := Lib.hid hf
                        clear hf
                        go_enter Try.func41, Try.ntmps41
                        go_wp2
                        go_ret
                        exact ⟨ret_bool (by rw [Hf.out] <;> (simp; omega)), ((Below.refl _ _).alloc (Nat.le_refl _) _).alloc (by simp) _⟩
    · have hf := nodeB_iff (np := np) (nm := nm) (x := ⟨q0, q1, q2, q3, q4, q5, q6⟩).2 (by simp; omega)
      have Hf := Lib.hid hf
      clear hf
      have hb : (q0 != 3) = true := by simpa using h3
      clear hk h3
      go_enter Try.func41, Try.ntmps41
      go_wp2
      go_ret
      exact ⟨by rw [Hf.out]; rfl, ((Below.refl _ _).alloc (Nat.le_refl _) _).alloc (by simp) _⟩
end Go.Proofs.Yteoioboiniealaa
