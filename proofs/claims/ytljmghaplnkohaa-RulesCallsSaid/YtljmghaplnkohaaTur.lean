/- Which blocks a call may turn: by their types. -/
import Derived.Test.YtljmghaplnkohaaBlk
namespace Go.Proofs.Ytljmghaplnkohaa
open Go.RowKit

/-- From w to w' only blocks of some types have turned. -/
structure ChT (ts : List TypeId) (w w' : World) : Prop where
  os : w'.os = w.os
  tape : w'.tape = w.tape
  output : w'.output = w.output
  size : w.heap.size ≤ w'.heap.size
  typ : ∀ (b : Nat) (cs : Array Value) (t : TypeId) (fr : Nat × Nat), w.heap[b]? = some (.cells cs t fr) → t ∉ ts → w'.heap[b]? = some (.cells cs t fr)
section
variable {ts us : List TypeId} {w w1 w2 : World}
theorem ChT.refl (ts : List TypeId) (w : World) : ChT ts w w := ⟨rfl, rfl, rfl, Nat.le_refl _, fun _ _ _ _ h _ => h⟩
theorem ChT.trans (h : ChT ts w w1) (k : ChT ts w1 w2) : ChT ts w w2 :=
  ⟨k.os.trans h.os, k.tape.trans h.tape, k.output.trans h.output, Nat.le_trans h.size k.size, fun b cs t fr hb ht => k.typ b cs t fr (h.typ b cs t fr hb ht) ht⟩
theorem ChT.mono (h : ChT ts w w1) (hs : ∀ t ∈ ts, t ∈ us) : ChT us w w1 := ⟨h.os, h.tape, h.output, h.size, fun b cs t fr hb ht => h.typ b cs t fr hb (fun k => ht (hs t k))⟩
theorem ChT.of_below (h : Below w.heap.size w w1) : ChT ts w w1 :=
  ⟨h.os, h.tape, h.output, h.size, fun b _ _ _ hb _ => (h.block b (by
    rcases Nat.lt_or_ge b w.heap.size with hl | hl
    · exact hl
    · rw [Array.getElem?_eq_none hl] at hb; cases hb)).trans hb⟩
theorem ChT.below (h : ChT ts w w1) (k : Below w1.heap.size w1 w2) : ChT ts w w2 := h.trans (.of_below k)
theorem ChT.alloc (h : ChT ts w w1) (o : Obj) : ChT ts w (w1.alloc o) := h.below ((Below.refl _ _).alloc (Nat.le_refl _) o)
theorem ChT.drew (h : ChT ts w w1) : ChT ts w w1.drew := ⟨h.os, h.tape, h.output, h.size, h.typ⟩
/-- A block of one of these types is turned. -/
theorem ChT.grown {g : Nat} {t : TypeId} {cs : Array Value} (h : ChT ts w w1) (hg : w1.grownBy w2 (some g)) (hb : Blk w1 g t cs) (ht : t ∈ ts) : ChT ts w w2 := by
  refine ⟨hg.os.trans h.os, hg.tape.trans h.tape, hg.output.trans h.output, Nat.le_trans h.size hg.size, fun b cs' t' fr' hb' ht' => ?_⟩
  have h3 := h.typ b cs' t' fr' hb' ht'
  have hl : b < w1.heap.size := by
    rcases Nat.lt_or_ge b w1.heap.size with hl | hl
    · exact hl
    · rw [Array.getElem?_eq_none hl] at h3; cases h3
  refine (hg.block b hl (fun e => ?_)).trans h3
  injection e with e
  subst e
  have hb2 : w1.heap[b]? = some (.cells cs t) := hb
  rw [hb2] at h3
  injection h3 with h3
  injection h3 with _ h3 _
  exact ht' (h3 ▸ ht)
/-- A row of one of these types is turned. -/
theorem ChT.row {base e size n : Nat} {v : Value} {xs : List Value} (h : ChT ts w w1) (ho : w1.ownsRow base e size v n xs) (hg : w1.grownBy w2 v.ownBlock) (ht : e ∈ ts) : ChT ts w w2 := by
  rcases ho.2 with ⟨rfl, _⟩ | ⟨g, cap, cur, rfl, _, hh, _⟩
  · refine ⟨hg.os.trans h.os, hg.tape.trans h.tape, hg.output.trans h.output, Nat.le_trans h.size hg.size, fun b cs' t' fr' hb' ht' => ?_⟩
    have h3 := h.typ b cs' t' fr' hb' ht'
    refine (hg.block b ?_ (fun e => by simp [Value.ownBlock] at e)).trans h3
    rcases Nat.lt_or_ge b w1.heap.size with hl | hl
    · exact hl
    · rw [Array.getElem?_eq_none hl] at h3; cases h3
  · exact h.grown hg (show Blk w1 g e cur from hh) ht
theorem Blk.ch {g : Nat} {t : TypeId} {cs : Array Value} (h : Blk w g t cs) (k : ChT ts w w1) (ht : t ∉ ts) : Blk w1 g t cs := k.typ g cs t (0, 0) h ht
theorem own_ch {base e size n : Nat} {v : Value} {xs : List Value} (h : w.ownsRow base e size v n xs) (k : ChT ts w w1) (ht : e ∉ ts) : w1.ownsRow base e size v n xs :=
  ⟨h.1, h.2.imp id fun ⟨g, cap, cur, a, b, hh, r⟩ => ⟨g, cap, cur, a, b, k.typ g cur e (0, 0) hh ht, r⟩⟩
theorem grown_set (w : World) (g i : Nat) (u : Value) : w.grownBy (w.setCell ⟨g, i, none⟩ u) (some g) :=
  ⟨rfl, rfl, rfl, by simp [World.setCell], fun b _ hne => Below.heap_setCell w ⟨g, i, none⟩ u b (fun e => hne (by rw [e]))⟩
end

theorem ch_new {ts : List TypeId} {w w1 : World} {g i : Nat} (u : Value) (h : ChT ts w w1) (hg : w.heap.size ≤ g) : ChT ts w (w1.setCell ⟨g, i, none⟩ u) :=
  ⟨h.os, h.tape, h.output, by have := h.size; simpa [World.setCell] using this, fun b cs t fr hb ht => (Below.heap_setCell w1 ⟨g, i, none⟩ u b (by
    rcases Nat.lt_or_ge b w.heap.size with hl | hl
    · show b ≠ g; omega
    · rw [Array.getElem?_eq_none hl] at hb; cases hb)).trans (h.typ b cs t fr hb ht)⟩
theorem grownBelow {V W W1 : World} {r : Option Nat} (h : V.grownBy W r) (hb : Below W.heap.size W W1) : V.grownBy W1 r :=
  ⟨hb.os.trans h.os, hb.tape.trans h.tape, hb.output.trans h.output, Nat.le_trans h.size hb.size, fun k hk hne => (hb.block k (Nat.lt_of_lt_of_le hk h.size)).trans (h.block k hk hne)⟩
theorem rd_of_strs {W : World} {B : Nat} {v : Value} {l : List ByteArray} (h : W.ownsRow B 9 1 v l.length (l.map .string)) : Rd W (strsD l) v := by
  obtain ⟨A, c, rfl, _, _⟩ := own_slice h
  refine rd_sl.2 ⟨A, c, _, rfl, own_mono h (Nat.zero_le _), ?_⟩
  have hl : ∀ l : List ByteArray, RdL W (l.flatMap strC) (l.map .string) := by
    intro l
    induction l with
    | nil => exact rdl_nil.2 rfl
    | cons a l ih => exact rdl_cons.2 ⟨_, _, rfl, rd_str.2 rfl, ih⟩
  exact hl l
theorem Try.infoFStr : (Try.prog.info? 9).map (fun i => (i.zero, i.size, i.bytes)) = some (some (.string ⟨#[]⟩), 1, 16) := by kernel_rfl
end Go.Proofs.Ytljmghaplnkohaa
