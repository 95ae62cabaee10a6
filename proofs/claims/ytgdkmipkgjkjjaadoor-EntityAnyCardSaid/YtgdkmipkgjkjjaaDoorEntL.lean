/- What the row's premise on the table of names gives: its cells. A world that meets it. -/
import Derived.Test.YtgdkmipkgjkjjaaDoorEntC
import Derived.ChangeSame
import Derived.ChangeVars
import Derived.ChangeArms
import Derived.ChangeMaps5
import Derived.JoinedOf
import Derived.JoinedAt
import Derived.RowKit3
import Derived.RowKitTokens
import Derived.LaidLaws
namespace Go.Proofs.YtgdkmipkgjkjjaaDoor
open Go.ChangeShapes Go.WideShapes Go.ChangeAt Go.RowKit

def tableD : DataW Unit := Rows.laid_galliard_entity_names
def laidL : List (String × DataW Unit) := [("galliard/entity.names", Rows.laid_galliard_entity_names)]
theorem Tryd.names : Tryd.prog.globalNamed "galliard/entity.names" = some 0 := by kernel_rfl
theorem Tryd.namesType : (Tryd.prog.globals[0]?).map (·.type) = some 48 := by kernel_rfl
theorem Tryd.cellsTable : Tryd.prog.cellsOf 48 = 10 := by kernel_rfl
theorem Tryd.cellsName : Tryd.prog.cellsOf 47 = 2 := by kernel_rfl

section
variable {H : Type} {enc : TypeId × Value → H} {W : World} {base : Nat} {spare : Nat → Bool} {held : Bool}
/-- One row of the table: its two cells. -/
theorem name_row {fuel : Nat} {cs : List Value} {x : DataW H × List MemPlace} (h : DataW.trod enc Tryd.prog W base spare held fuel 47 cs = some x) : ∃ (s : ByteArray) (n : Int), cs = [.string s, .int .i64 n] ∧ x.1 = .agg [.lit (.string s.data.toList), .lit (.int .i64 n)] := by
  have hu : ∃ f0 f1 : Field, Tryd.prog.underlying 47 = some (.struct #[f0, f1]) ∧ f0.type = 9 ∧ f0.offset = 0 ∧ f1.type = 3 ∧ f1.offset = 1 := ⟨_, _, Tryd.underlying47, rfl, rfl, rfl, rfl⟩
  obtain ⟨f0, f1, hu, e0, o0, e1, o1⟩ := hu
  obtain ⟨xs, n, _, hx, hl, hxl, hf⟩ := DataW.trod_struct hu h
  have hC0 : Tryd.prog.cellsOf 9 = 1 := by kernel_rfl
  have hC1 : Tryd.prog.cellsOf 3 = 1 := by kernel_rfl
  rw [Tryd.cellsName] at hl
  have g0 := hf 0 f0 rfl
  have g1 := hf 1 f1 rfl
  rw [e0, o0, hC0] at g0
  rw [e1, o1, hC1] at g1
  match cs, hl, xs, hxl with
  | [c0, c1], _, [y0, y1], _ =>
    obtain ⟨s, q0, q1, _⟩ := DataW.trod_string Tryd.underlying9 g0
    obtain ⟨m, r0, r1, _⟩ := DataW.trod_int Tryd.underlying3 g1
    simp at q0 q1 r0 r1
    exact ⟨s, m, by rw [q0, r0], by rw [hx, q1, r1]; rfl⟩
theorem take_two (cs : List Value) (i : Nat) (a b : Value) (h : (cs.drop (i * 2)).take 2 = [a, b]) : cs[i * 2]? = some a ∧ cs[i * 2 + 1]? = some b := by
  have h0 : ((cs.drop (i * 2)).take 2)[0]? = some a := by rw [h]; rfl
  have h1 : ((cs.drop (i * 2)).take 2)[1]? = some b := by rw [h]; rfl
  rw [List.getElem?_take_of_lt (by omega), List.getElem?_drop] at h0 h1
  exact ⟨by simpa using h0, h1⟩
theorem ba_of {s : ByteArray} {l : List UInt8} (h : s.data.toList = l) : s = ⟨l.toArray⟩ := by
  subst h
  rw [Array.toArray_toList]
end
theorem names_of_laid {W : World} (h : laidMet Tryd.prog laidL W) : NamesAt W := by
  obtain ⟨ps, ⟨g, t, cs, fuel, p, q, hg, ht, hvar, hd, _, _⟩, _⟩ := h
  obtain rfl := Option.some.inj (Tryd.names.symm.trans hg)
  obtain rfl := Option.some.inj (Tryd.namesType.symm.trans ht)
  have hcell : ∀ j, W.cell? ⟨0, j, none⟩ = cs[j]? := fun j => World.var?_cell hg hvar j
  obtain ⟨xs, m, _, hx, hlen, hxl, hrow⟩ := DataW.trod_array Tryd.underlying48 hd
  rw [Tryd.cellsTable] at hlen
  rw [Tryd.cellsName] at hrow
  have hmap : xs.map (·.1) = [.agg [.lit (.string [97, 109, 112]), .lit (.int .i64 38)], .agg [.lit (.string [108, 116]), .lit (.int .i64 60)], .agg [.lit (.string [103, 116]), .lit (.int .i64 62)], .agg [.lit (.string [113, 117, 111, 116]), .lit (.int .i64 34)], .agg [.lit (.string [97, 112, 111, 115]), .lit (.int .i64 39)]] := by
    have h1 := congrArg Prod.fst hx
    simp only [Rows.laid_galliard_entity_names] at h1
    injection h1 with h1
    exact h1.symm
  have key : ∀ (i : Nat) (bs : List UInt8) (n : Int), i < 5 → (xs.map (·.1))[i]? = some (.agg [.lit (.string bs), .lit (.int .i64 n)]) → cs[i * 2]? = some (.string ⟨bs.toArray⟩) ∧ cs[i * 2 + 1]? = some (.int .i64 n) := by
    intro i bs n hi hm
    have hr := hrow i hi
    rw [List.getElem?_map] at hm
    cases hxi : xs[i]? with
    | none => rw [hxi] at hm; cases hm
    | some y =>
      rw [hxi] at hm hr
      obtain ⟨s, k, hc, hy⟩ := name_row hr
      injection hm with hm
      replace hm := hy.symm.trans hm
      injection hm with hm
      injection hm with hm1 hm2
      injection hm2 with hm2 _
      injection hm1 with hm1
      injection hm2 with hm2
      injection hm1 with hm1
      injection hm2 with _ hm2
      obtain ⟨t0, t1⟩ := take_two _ _ _ _ hc
      rw [ba_of hm1] at t0
      rw [hm2] at t1
      exact ⟨by rw [← Array.getElem?_toList]; exact t0, by rw [← Array.getElem?_toList]; exact t1⟩
  rw [hmap] at key
  have k0 := key 0 _ _ (by omega) rfl
  have k1 := key 1 _ _ (by omega) rfl
  have k2 := key 2 _ _ (by omega) rfl
  have k3 := key 3 _ _ (by omega) rfl
  have k4 := key 4 _ _ (by omega) rfl
  refine ⟨by have := World.block_lt_of_cell? _ _ ((hcell 0).trans k0.1); exact this, fun j v hv => ?_⟩
  rw [hcell j]
  have hj : j < 10 := by
    have := (List.getElem?_eq_some_iff.1 hv).1
    simpa [namesC] using this
  have : j = 0 ∨ j = 1 ∨ j = 2 ∨ j = 3 ∨ j = 4 ∨ j = 5 ∨ j = 6 ∨ j = 7 ∨ j = 8 ∨ j = 9 := by omega
  rcases this with rfl | rfl | rfl | rfl | rfl | rfl | rfl | rfl | rfl | rfl
  · rw [← hv]; exact k0.1
  · rw [← hv]; exact k0.2
  · rw [← hv]; exact k1.1
  · rw [← hv]; exact k1.2
  · rw [← hv]; exact k2.1
  · rw [← hv]; exact k2.2
  · rw [← hv]; exact k3.1
  · rw [← hv]; exact k3.2
  · rw [← hv]; exact k4.1
  · rw [← hv]; exact k4.2

/-- The settled world, the table's cells as they are laid. -/
noncomputable def laidWorld (os : Os) : World :=
  let w0 := World.holding Tryd.prog os ⟨#[], #[], []⟩
  { w0 with heap := w0.heap.modify 0 fun
      | .cells _ t frozen => .cells namesC.toArray t frozen
      | o => o }
theorem laidWorld_met (os : Os) (args : Array Value) : laidMet Tryd.prog laidL ((laidWorld os).forCall (fun _ _ => 0) ⟨#[], args, []⟩).memory :=
  laidMet_of_run (ps := (List.range 10).map (MemPlace.cell 0)) 8 (by kernel_rfl) (by kernel_rfl) (by kernel_rfl)
end Go.Proofs.YtgdkmipkgjkjjaaDoor
