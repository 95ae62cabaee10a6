/- A pair of integers that comes in by value, opened. -/
import Derived.Test.YtljmghaplnkohaaArgs
namespace Go.Proofs.Ytljmghaplnkohaa
open Go.ChangeShapes Go.WideShapes Go.ChangeAt Go.RowKit Go.Deep

theorem okWide_array {P : Program} {w : World} {r : Reach} {base : Nat} {t : TypeId} {v : Value} {n : Nat} {e : TypeId} (ht : P.underlying t = some (.array n e)) (h : Value.okWide P w r base t v) : ∃ cs, v = .agg cs ∧ cs.size = P.cellsOf t := by
  simp only [Value.okWide, ht] at h
  obtain ⟨cs, h1, h2, _⟩ := h
  exact ⟨cs, h1, h2⟩
section
variable {H : Type} {enc : TypeId × Value → H} {W : World} {base base' : Nat} {spare : Nat → Bool} {held : Bool} {r : Reach}
set_option maxRecDepth 100000 in
theorem pair_in {v : Value} {d : DataW H × List MemPlace} (hv : Value.okWide Try.prog W r base' 31 v) (h : ∃ fuel, DataW.trod enc Try.prog W base spare held fuel 31 v.cells.toList = some d) :
    ∃ a b, v = .agg #[.int .i64 a, .int .i64 b] := by
  obtain ⟨fuel, ht⟩ := h
  obtain ⟨cs, rfl, hs⟩ := okWide_array Try.underlying31 hv
  have hC : Try.prog.cellsOf 31 = 2 := by kernel_rfl
  have hI : Try.prog.cellsOf 3 = 1 := by kernel_rfl
  rw [hC] at hs
  obtain ⟨ys, q, _, _, _, hyl, hy⟩ := DataW.trod_array Try.underlying31 ht
  rw [hI] at hy
  obtain ⟨l⟩ := cs
  match l, hs with
  | [c0, c1], _ =>
    have y0 := hy 0 (by omega)
    have y1 := hy 1 (by omega)
    simp only [Value.cells, Nat.zero_mul, List.drop_zero, Nat.one_mul, List.drop_succ_cons, List.take_succ_cons, List.take_zero] at y0 y1
    rw [List.getElem?_eq_getElem (by omega)] at y0 y1
    obtain ⟨n0, e0, _⟩ := DataW.trod_int Try.underlying3 y0
    obtain ⟨n1, e1, _⟩ := DataW.trod_int Try.underlying3 y1
    simp at e0 e1
    subst e0
    subst e1
    exact ⟨n0, n1, rfl⟩
end
end Go.Proofs.Ytljmghaplnkohaa
