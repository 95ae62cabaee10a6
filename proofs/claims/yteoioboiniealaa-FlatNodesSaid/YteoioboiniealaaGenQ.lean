/- What a generated choreography counts at most; blocks of two types; the last task so far. -/
import Derived.Test.YteoioboiniealaaGenL
namespace Go.Proofs.Yteoioboiniealaa
open Go.RowKit

theorem gchor_facts (p : List Int) (hp : p.length ≤ maxLen) (nm pre : ByteArray) (hpre : pre.size ≤ 10) : 2 ≤ (gchorF p nm pre).parts.length ∧ (gchorF p nm pre).parts.length ≤ 4 ∧ (gchorF p nm pre).flows.length ≤ 108 ∧ (gchorF p nm pre).items.length ≤ 108 ∧ (gchorF p nm pre).seqs.length ≤ 108 ∧ 1 ≤ (gchorF p nm pre).seqs.length := by
  have hg := grow_level (gbeginF p (2 + pickF p 0 % 16 % 3) pre) 3
  have hs : SmallM 0 (gbeginF p (2 + pickF p 0 % 16 % 3) pre) := ⟨hpre, hp, Nat.le_refl _, Nat.le_refl _, Nat.le_refl _, Nat.le_refl _, Nat.le_refl _⟩
  have h := hg.small hs
  have hpl : (gmakeF p pre).parts.length = 2 + pickF p 0 % 16 % 3 := by
    show (glevelF _ 3).parts.length = _
    rw [hg.parts]
    simp [gbeginF]
  have hG : gG 3 = 103 := rfl
  rw [hG] at h
  have hsq : 1 ≤ (gmakeF p pre).seqs.length := by
    unfold gmakeF glevelF
    dsimp only
    simp [gseqF]
  refine ⟨?_, ?_, h.flows, h.items, h.seqs, hsq⟩
  · show 2 ≤ (gmakeF p pre).parts.length
    omega
  · show (gmakeF p pre).parts.length ≤ 4
    omega
theorem blk_ne {W : World} {a b : Nat} {t1 t2 : TypeId} {cs ds : Array Value} (h1 : Blk W a t1 cs) (h2 : Blk W b t2 ds) (hne : t1 ≠ t2) : a ≠ b := by
  intro e
  subst e
  unfold Blk at h1 h2
  rw [h1] at h2
  injection h2 with h2
  injection h2 with _ ht
  exact hne ht
def KInv (l : List ItemD) (i : Nat) (kk : Int) : Prop := (kk = -1 ∧ ∀ x ∈ l.take i, x.kind ≠ 3) ∨ ∃ j, ∃ h : j < l.length, kk = (j : Int) ∧ l[j].kind = 3
theorem kinv_no {l : List ItemD} {i : Nat} {kk : Int} (hi : i < l.length) (h : KInv l i kk) (h3 : l[i].kind ≠ 3) : KInv l (i + 1) kk := by
  rcases h with ⟨h1, h2⟩ | h
  · refine .inl ⟨h1, fun x hx => ?_⟩
    rw [List.take_succ_eq_append_getElem hi] at hx
    rcases List.mem_append.1 hx with hx | hx
    · exact h2 x hx
    · rw [List.mem_singleton.1 hx]; exact h3
  · exact .inr h
theorem kinv_end {l : List ItemD} {kk : Int} (h : KInv l l.length kk) (ht : ∃ y ∈ l, y.kind = 3) : ∃ j, ∃ h : j < l.length, kk = (j : Int) ∧ l[j].kind = 3 := by
  rcases h with ⟨_, h2⟩ | h
  · rw [List.take_length] at h2
    obtain ⟨x, hx, h3⟩ := ht
    exact absurd h3 (h2 x hx)
  · exact h
end Go.Proofs.Yteoioboiniealaa
