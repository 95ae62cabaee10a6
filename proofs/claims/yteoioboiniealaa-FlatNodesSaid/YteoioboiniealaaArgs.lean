/- What a law is handed: slices of integers, and of pairs of integers, opened at every index. -/
import Derived.Test.YteoioboiniealaaRows
import Derived.WalkKit
import Derived.ProofKit
import Derived.OpenShut
import Derived.ShutString
import Derived.ChangeOld
import Derived.Below
import Derived.Deep.Slices
namespace Go.Proofs.Yteoioboiniealaa
open Go.ChangeShapes Go.WideShapes Go.ChangeAt Go.RowKit Go.Deep
open Go.ChangeMaps (open_string shut_string)

theorem Try.laidOut : laidOutB Try.prog = true := by kernel_rfl
/-- A slice of integers, read at every index. -/
def IntsAt (w : World) (A : Option Addr) (xs : List Int) : Prop :=
  ∀ (k : Nat) (h : k < xs.length), ∃ b o, A = some ⟨b, o, none⟩ ∧ b < w.heap.size ∧ w.cell? ⟨b, o + k, none⟩ = some (.int .i64 xs[k])
/-- A slice of pairs of integers, read at every index. -/
def PairsAt (w : World) (A : Option Addr) (xs : List (Int × Int)) : Prop :=
  ∀ (k : Nat) (h : k < xs.length), ∃ b o, A = some ⟨b, o, none⟩ ∧ b < w.heap.size ∧ w.cell? ⟨b, o + k * 2, none⟩ = some (.int .i64 xs[k].1) ∧ w.cell? ⟨b, o + k * 2 + 1, none⟩ = some (.int .i64 xs[k].2)
theorem IntsAt.below {w w' : World} {A : Option Addr} {xs : List Int} (h : IntsAt w A xs) (hb : Below w.heap.size w w') : IntsAt w' A xs := fun k hk => by
  obtain ⟨b, o, rfl, hlt, hc⟩ := h k hk
  exact ⟨b, o, rfl, Nat.lt_of_lt_of_le hlt hb.size, (hb.cell (p := ⟨b, o + k, none⟩) hlt).trans hc⟩
theorem PairsAt.below {w w' : World} {A : Option Addr} {xs : List (Int × Int)} (h : PairsAt w A xs) (hb : Below w.heap.size w w') : PairsAt w' A xs := fun k hk => by
  obtain ⟨b, o, rfl, hlt, hc, hd⟩ := h k hk
  exact ⟨b, o, rfl, Nat.lt_of_lt_of_le hlt hb.size, (hb.cell (p := ⟨b, o + k * 2, none⟩) hlt).trans hc, (hb.cell (p := ⟨b, o + k * 2 + 1, none⟩) hlt).trans hd⟩
theorem addr_of_cell {w : World} {a : Addr} {v : Value} (h : w.cell? a = some v) : a.spot = none := by
  unfold World.cell? at h
  split at h
  · rename_i c
    cases hs : a.spot
    · rfl
    · rw [hs] at h
      simp at h
  · cases h
theorem addr_add {w : World} {b o k : Nat} {v : Value} (h : w.cell? (Addr.add ⟨b, o, none⟩ k) = some v) : w.cell? ⟨b, o + k, none⟩ = some v := by
  unfold Addr.add at h
  split at h
  · rename_i e
    subst e
    exact h
  · exact h

section
variable {H : Type} {enc : TypeId × Value → H} {W : World} {base : Nat} {spare : Nat → Bool} {held : Bool}
theorem ints_in {A : Option Addr} {len cap fuel : Nat} {d : DataW H × List MemPlace} (h : DataW.trod enc Try.prog W base spare held fuel 22 [.slice A len cap] = some d) :
    ∃ xs, xs.length = len ∧ len ≤ maxLen ∧ IntsAt W A xs := by
  rcases open_ints Try.underlying22 Try.underlying3 (by kernel_rfl) h with ⟨hcs, _⟩ | ⟨x, l, c, zs, hcs, _, hl, hm, hz, _, hcell, _⟩
  · simp at hcs
    obtain ⟨rfl, rfl, rfl⟩ := hcs
    exact ⟨[], rfl, by omega, fun k hk => by simp at hk⟩
  · simp at hcs
    obtain ⟨rfl, rfl, rfl⟩ := hcs
    have hzl : len ≤ zs.length := by rw [hz]; split <;> omega
    refine ⟨zs.take len, by simp; omega, by omega, fun k hk => ?_⟩
    have hkl : k < zs.length := by simp at hk; omega
    have hc := hcell k hkl
    obtain ⟨b, o, s⟩ := x
    have h0 := hcell 0 (by omega)
    have hs : s = none := by
      have := addr_of_cell h0
      simpa [Addr.add] using this
    subst hs
    refine ⟨b, o, rfl, World.block_lt_of_cell? _ _ h0, ?_⟩
    have := addr_add hc
    rw [this]
    simp [List.getD_eq_getElem?_getD, List.getElem?_eq_getElem hkl]
theorem pairs_in {A : Option Addr} {len cap fuel : Nat} {d : DataW H × List MemPlace} (h : DataW.trod enc Try.prog W base spare held fuel 50 [.slice A len cap] = some d) :
    ∃ xs, xs.length = len ∧ len ≤ maxLen ∧ PairsAt W A xs := by
  rcases open_slice Try.underlying50 h with ⟨hcs, _⟩ | ⟨x, l, c, m, n, D, Pl, hcs, _, hl, hm, hz, _, hi⟩
  · simp at hcs
    obtain ⟨rfl, rfl, rfl⟩ := hcs
    exact ⟨[], rfl, by omega, fun k hk => by simp at hk⟩
  · simp at hcs
    obtain ⟨rfl, rfl, rfl⟩ := hcs
    have hml : len ≤ m := by rw [hz]; split <;> omega
    have hC : Try.prog.cellsOf 100 = 2 := by kernel_rfl
    have hI : Try.prog.cellsOf 3 = 1 := by kernel_rfl
    have hpair : ∀ i, i < len → ∃ p : Int × Int, W.cell? (x.add (i * 2)) = some (.int .i64 p.1) ∧ W.cell? ((x.add (i * 2)).add 1) = some (.int .i64 p.2) := by
      intro i hil
      obtain ⟨cs', hcell, ht⟩ := hi i (by omega)
      rw [hC] at hcell
      obtain ⟨_, hlen, hat⟩ := World.cells?_some hcell
      obtain ⟨ys, q, _, _, _, hyl, hy⟩ := DataW.trod_array Try.underlying100 ht
      rw [hI] at hy
      match cs', hlen with
      | [c0, c1], _ =>
        have y0 := hy 0 (by omega)
        have y1 := hy 1 (by omega)
        simp only [Nat.zero_mul, List.drop_zero, Nat.one_mul, List.drop_succ_cons, List.take_succ_cons, List.take_zero] at y0 y1
        rw [List.getElem?_eq_getElem (by omega)] at y0 y1
        obtain ⟨n0, e0, _⟩ := DataW.trod_int Try.underlying3 y0
        obtain ⟨n1, e1, _⟩ := DataW.trod_int Try.underlying3 y1
        simp at e0 e1
        subst e0
        subst e1
        exact ⟨(n0, n1), by simpa [Addr.add] using hat 0 (by omega), by simpa using hat 1 (by omega)⟩
    let f : Nat → Int × Int := fun i => if h : i < len then (hpair i h).choose else (0, 0)
    refine ⟨(List.range len).map f, by simp, by omega, fun k hk => ?_⟩
    have hkl : k < len := by simpa using hk
    obtain ⟨h0, h1⟩ := (hpair k hkl).choose_spec
    have hf : ((List.range len).map f)[k] = (hpair k hkl).choose := by simp [f, hkl]
    rw [hf]
    generalize (hpair k hkl).choose = p at *
    have hs : x.spot = none := by
      obtain ⟨p0, hp0, _⟩ := hpair 0 (by omega)
      have := addr_of_cell hp0
      simpa [Addr.add] using this
    obtain ⟨b, o, s⟩ := x
    simp only at hs
    subst hs
    have hb : b < W.heap.size := by
      obtain ⟨p0, hp0, _⟩ := hpair 0 (by omega)
      have := World.block_lt_of_cell? _ _ hp0
      simpa [Addr.add] using this
    refine ⟨b, o, rfl, hb, addr_add h0, ?_⟩
    unfold Addr.add at h1
    simp only [Nat.one_ne_zero, if_false] at h1
    split at h1
    · rename_i e
      rw [e]
      exact h1
    · exact h1
end
end Go.Proofs.Yteoioboiniealaa
