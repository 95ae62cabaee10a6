/- inline.Chor at documents that are written out; the law's awake. -/
import Derived.Test.YteoioboiniealaaInlK
namespace Go.Proofs.Yteoioboiniealaa
open Go.RowKit

mutual
/-- Texts and lists within are short enough, as a Bool. -/
def smallIB : ItemD → Bool
  | ⟨_, id, _, parts, flows, _, _, maps, items, seqs⟩ => decide (id.size ≤ 1000) && decide (parts.length ≤ 1000000) && decide (flows.length ≤ 1000000) && flows.all (fun f => decide (f.size ≤ 1000)) && decide (maps.length ≤ 1000000) && decide (items.length ≤ 1000000) && smallLB items && decide (seqs.length ≤ 1000000) && seqs.all (fun s => decide (s.id.size ≤ 1000) && decide (s.src.size ≤ 1000) && decide (s.dst.size ≤ 1000))
def smallLB : List ItemD → Bool
  | [] => true
  | x :: l => smallIB x && smallLB l
end
theorem seqB_spec {l : List SeqD} (h : (l.all fun s => decide (s.id.size ≤ 1000) && decide (s.src.size ≤ 1000) && decide (s.dst.size ≤ 1000)) = true) : ∀ s ∈ l, SmallS s := fun s hs => by
  have := List.all_eq_true.1 h s hs
  simp only [Bool.and_eq_true, decide_eq_true_eq] at this
  exact ⟨this.1.1, this.1.2, this.2⟩
mutual
theorem smallIB_spec : ∀ x : ItemD, smallIB x = true → smallI x
  | ⟨_, id, _, parts, flows, _, _, maps, items, seqs⟩, h => by
    rw [smallIB] at h
    simp only [Bool.and_eq_true, decide_eq_true_eq] at h
    obtain ⟨⟨⟨⟨⟨⟨⟨⟨h1, h2⟩, h3⟩, h4⟩, h5⟩, h6⟩, h7⟩, h8⟩, h9⟩ := h
    unfold smallI
    exact ⟨h1, h2, h3, fun f hf => by simpa using List.all_eq_true.1 h4 f hf, h5, h6, smallLB_spec items h7, h8, seqB_spec h9⟩
theorem smallLB_spec : ∀ l : List ItemD, smallLB l = true → smallL l
  | [], _ => by unfold smallL; trivial
  | x :: l, h => by
    rw [smallLB] at h
    simp only [Bool.and_eq_true] at h
    unfold smallL
    exact ⟨smallIB_spec x h.1, smallLB_spec l h.2⟩
end
def sC : ByteArray := ⟨#[99]⟩
end Go.Proofs.Yteoioboiniealaa
