/- The contract of (*inline.maker).wrong. -/
import Derived.Test.YteoioboiniealaaInlC
import Derived.Test.YteoioboiniealaaBlk
namespace Go.Proofs.Yteoioboiniealaa
open Go.RowKit

/-- What a maker holds, in its block. -/
def mkC (vM vC vF : Value) (n e : Int) : Array Value := #[vM, vC, vF, .int .i64 n, .int .i64 e]
theorem only_set {w : World} {g : Nat} {p : Addr} (hp : p.block = g) (u : Value) : w.grownBy (w.setCell p u) (some g) :=
  ⟨rfl, rfl, rfl, by simp [World.setCell], fun i _ hne => Below.heap_setCell w p u i (by rintro rfl; exact hne (by rw [hp]))⟩
/-- The first thing that is wrong stays. -/
def wrongF (e x : Int) : Int := if e = 0 then x else e

theorem wrong_any {w : World} {m : Nat} {vM vC vF : Value} {n e : Int} (x : Int) (hm : Blk w m 108 (mkC vM vC vF n e)) :
    Calls Try.prog 70 #[.pointer (some ⟨m, 0, none⟩), .int .i64 x] w fun r w' => r = .returned (.tuple #[]) ∧ Blk w' m 108 (mkC vM vC vF n (wrongF e x)) ∧ w.grownBy w' (some m) := by
  have x4 : w.cell? ⟨m, 4, none⟩ = some (.int .i64 e) := hm.cell 4
  have f4 := hm.frozen 4
  have HM := Lib.hid hm
  clear hm
  rcases he : (e == 0) with _ | _
  · have hw : wrongF e x = e := by
      unfold wrongF
      rw [if_neg (by simpa using he)]
    have HW := Lib.hid hw
    clear hw
    go_enter Try.func70, Try.ntmps70
    go_wp2_with fail
    go_end0
    exact ⟨rfl, by rw [HW.out]; exact HM.out, World.grownBy.refl _ _⟩
  · have hw : wrongF e x = x := by
      unfold wrongF
      rw [if_pos (by simpa using he)]
    have HW := Lib.hid hw
    clear hw
    go_enter Try.func70, Try.ntmps70
    go_wp2_with fail
    go_end0
    exact ⟨rfl, by rw [HW.out]; exact HM.out.set_ 4 _, only_set rfl _⟩
end Go.Proofs.Yteoioboiniealaa
