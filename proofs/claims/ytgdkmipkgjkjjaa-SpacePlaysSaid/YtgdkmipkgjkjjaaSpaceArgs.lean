/- What the law SpacePlays is handed: a slice of acts, opened at every index. -/
import Derived.Test.YtgdkmipkgjkjjaaRows
import Derived.WalkKit
import Derived.ProofKit
import Derived.OpenShut
import Derived.ShutString
import Derived.ChangeOld
import Derived.Below
import Derived.Deep.Slices
namespace Go.Proofs.Ytgdkmipkgjkjjaa
open Go.ChangeShapes Go.WideShapes Go.ChangeAt Go.RowKit Go.Deep
open Go.ChangeMaps (open_string shut_string)

theorem Try.laidOut : laidOutB Try.prog = true := by kernel_rfl
/-- An act: what, and three numbers. -/
structure ActD where
  what : Int
  p0 : Int
  p1 : Int
  p2 : Int
/-- A slice of acts, read at every index. -/
def ActsAt (w : World) (A : Option Addr) (xs : List ActD) : Prop :=
  ∀ (k : Nat) (h : k < xs.length), ∃ b o, A = some ⟨b, o, none⟩ ∧ b < w.heap.size ∧ w.cell? ⟨b, o + k * 4, none⟩ = some (.int .i64 xs[k].what) ∧ w.cell? ⟨b, o + k * 4 + 1, none⟩ = some (.int .i64 xs[k].p0) ∧ w.cell? ⟨b, o + k * 4 + 2, none⟩ = some (.int .i64 xs[k].p1) ∧ w.cell? ⟨b, o + k * 4 + 3, none⟩ = some (.int .i64 xs[k].p2)
theorem addr_of_cell {w : World} {a : Addr} {v : Value} (h : w.cell? a = some v) : a.spot = none := by
  unfold World.cell? at h
  split at h
  · rename_i c
    cases hs : a.spot
    · rfl
    · rw [hs] at h
      simp at h
  · cases h
theorem addr_add {w : World} {b o k : Nat} {v : Value} (h : w.cell? (Addr.add ⟨b, o, none⟩ k) = some v) : w.cell? ⟨b, o + k, none⟩ = some v := by
  unfold Addr.add at h
  split at h
  · rename_i e
    subst e
    exact h
  · exact h
theorem addr_add2 {w : World} {b o k j : Nat} {v : Value} (h : w.cell? ((Addr.add ⟨b, o, none⟩ k).add j) = some v) : w.cell? ⟨b, o + k + j, none⟩ = some v := by
  have e : (Addr.add ⟨b, o, none⟩ k) = ⟨b, o + k, none⟩ := by unfold Addr.add; split <;> simp_all
  rw [e] at h
  exact addr_add h

section
variable {H : Type} {enc : TypeId × Value → H} {W : World} {base : Nat} {spare : Nat → Bool} {held : Bool}
theorem acts_in {A : Option Addr} {len cap fuel : Nat} {d : DataW H × List MemPlace} (h : DataW.trod enc Try.prog W base spare held fuel 48 [.slice A len cap] = some d) :
    ∃ xs, xs.length = len ∧ len ≤ maxLen ∧ ActsAt W A xs := by
  rcases open_slice Try.underlying48 h with ⟨hcs, _⟩ | ⟨x, l, c, m, n, D, Pl, hcs, _, hl, hm, hz, _, hi⟩
  · simp at hcs
    obtain ⟨rfl, rfl, rfl⟩ := hcs
    exact ⟨[], rfl, by omega, fun k hk => by simp at hk⟩
  · simp at hcs
    obtain ⟨rfl, rfl, rfl⟩ := hcs
    have hml : len ≤ m := by rw [hz]; split <;> omega
    have hC : Try.prog.cellsOf 53 = 4 := by kernel_rfl
    have hC3 : Try.prog.cellsOf 51 = 3 := by kernel_rfl
    have hI : Try.prog.cellsOf 3 = 1 := by kernel_rfl
    have hact : ∀ i, i < len → ∃ p : ActD, W.cell? (x.add (i * 4)) = some (.int .i64 p.what) ∧ W.cell? ((x.add (i * 4)).add 1) = some (.int .i64 p.p0) ∧ W.cell? ((x.add (i * 4)).add 2) = some (.int .i64 p.p1) ∧ W.cell? ((x.add (i * 4)).add 3) = some (.int .i64 p.p2) := by
      intro i hil
      obtain ⟨cs', hcell, ht⟩ := hi i (by omega)
      rw [hC] at hcell
      obtain ⟨_, hlen, hat⟩ := World.cells?_some hcell
      obtain ⟨ys, q, _, _, _, hyl, hy⟩ := DataW.trod_struct Try.underlying53 ht
      have y0 : DataW.trod enc Try.prog W base spare held q 3 ((cs'.drop 0).take (Try.prog.cellsOf 3)) = ys[0]? := hy 0 _ rfl
      have y1 : DataW.trod enc Try.prog W base spare held q 51 ((cs'.drop 1).take (Try.prog.cellsOf 51)) = ys[1]? := hy 1 _ rfl
      rw [hI] at y0
      rw [hC3] at y1
      match cs', hlen with
      | [c0, c1, c2, c3], _ =>
        simp only [List.drop_zero, List.drop_succ_cons, List.take_succ_cons, List.take_zero] at y0 y1
        rw [List.getElem?_eq_getElem (by rw [hyl]; decide)] at y0 y1
        obtain ⟨n0, e0, _⟩ := DataW.trod_int Try.underlying3 y0
        obtain ⟨zs, q2, _, _, _, hzl, hz3⟩ := DataW.trod_array Try.underlying51 y1
        rw [hI] at hz3
        have z0 := hz3 0 (by omega)
        have z1 := hz3 1 (by omega)
        have z2 := hz3 2 (by omega)
        simp only [Nat.zero_mul, List.drop_zero, Nat.one_mul, List.drop_succ_cons, List.take_succ_cons, List.take_zero] at z0 z1 z2
        rw [List.getElem?_eq_getElem (by omega)] at z0 z1 z2
        obtain ⟨n1, e1, _⟩ := DataW.trod_int Try.underlying3 z0
        obtain ⟨n2, e2, _⟩ := DataW.trod_int Try.underlying3 z1
        obtain ⟨n3, e3, _⟩ := DataW.trod_int Try.underlying3 z2
        simp at e0 e1 e2 e3
        subst e0
        subst e1
        subst e2
        subst e3
        exact ⟨⟨n0, n1, n2, n3⟩, by simpa [Addr.add] using hat 0 (by omega), by simpa using hat 1 (by omega), by simpa using hat 2 (by omega), by simpa using hat 3 (by omega)⟩
    let f : Nat → ActD := fun i => if h : i < len then (hact i h).choose else ⟨0, 0, 0, 0⟩
    refine ⟨(List.range len).map f, by simp, by omega, fun k hk => ?_⟩
    have hkl : k < len := by simpa using hk
    obtain ⟨h0, h1, h2, h3⟩ := (hact k hkl).choose_spec
    have hf : ((List.range len).map f)[k] = (hact k hkl).choose := by simp [f, hkl]
    rw [hf]
    generalize (hact k hkl).choose = p at *
    have hs : x.spot = none := by
      obtain ⟨p0, hp0, _⟩ := hact 0 (by omega)
      have := addr_of_cell hp0
      simpa [Addr.add] using this
    obtain ⟨b, o, s⟩ := x
    simp only at hs
    subst hs
    have hb : b < W.heap.size := by
      obtain ⟨p0, hp0, _⟩ := hact 0 (by omega)
      have := World.block_lt_of_cell? _ _ hp0
      simpa [Addr.add] using this
    exact ⟨b, o, rfl, hb, addr_add h0, addr_add2 h1, addr_add2 h2, addr_add2 h3⟩
end
end Go.Proofs.Ytgdkmipkgjkjjaa
