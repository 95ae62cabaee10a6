/- Memory of a document that is changed: the choreography's block is written, its rows are copies. -/
import Derived.Test.YtljmghaplnkohaaGenL
import Derived.Test.YtljmghaplnkohaaGenP
import Derived.Test.YtljmghaplnkohaaTur
namespace Go.Proofs.Ytljmghaplnkohaa
open Go.RowKit

theorem rd_nilC {w : World} {e sz : Nat} : Rd w (.sl e sz 0 []) (.slice none 0 0) := rd_sl.2 ⟨none, 0, [], rfl, World.ownsRow_nil _ _ _ _, rdl_nil.2 rfl⟩
theorem rd_litC {w : World} {cs : Array Value} {e sz n : Nat} {ds : List Dat} (h : RdL w ds cs.toList) (hn : n ≤ maxLen) (hs : cs.size = n * sz) : Rd (w.alloc (.cells cs e)) (.sl e sz n ds) (.slice (some ⟨w.heap.size, 0, none⟩) n n) :=
  rd_sl.2 ⟨_, _, _, rfl, World.ownsRow_lit (base := 0) w _ n (Nat.zero_le _) hn hs, RdL.below ((Below.refl _ _).alloc (Nat.le_refl _) _) _ _ h⟩
theorem rd_ownC {W : World} {B e sz n : Nat} {v : Value} {xs : List Value} {ds : List Dat} (h : W.ownsRow B e sz v n xs) (hl : RdL W ds xs) : Rd W (.sl e sz n ds) v := by
  obtain ⟨A, c, rfl, _, _⟩ := own_slice h
  exact rd_sl.2 ⟨A, c, xs, rfl, own_mono h (Nat.zero_le _), hl⟩
theorem rd_ownR {α : Type} {W : World} {B e sz n : Nat} {v : Value} {xs : List Value} {f : α → List Dat} {l : List α} (h : W.ownsRow B e sz v n xs) (hl : RdL W (l.flatMap f) xs) (hn : l.length = n) : Rd W (datS e sz f l) v := by
  subst hn
  exact rd_ownC h hl
theorem own_drewC {w : World} {base e size n : Nat} {v : Value} {xs : List Value} (h : w.ownsRow base e size v n xs) : w.drew.ownsRow base e size v n xs := h
/-- A row as long as its room is its block. -/
theorem blk_of_ownC {W : World} {B e sz n g : Nat} {xs : List Value} (h : W.ownsRow B e sz (.slice (some ⟨g, 0, none⟩) n n) n xs) : Blk W g e xs.toArray := by
  rcases h.2 with ⟨h', _⟩ | ⟨g', cap, cur, h', _, hg, _, _, h5, h6⟩
  · cases h'
  · injection h' with e1 _ e3
    injection e1 with e1
    injection e1 with e1 _ _
    subst e1
    subst e3
    rw [List.take_of_length_le (by simp; omega)] at h6
    rw [← h6]
    exact hg
theorem own_of_blkC {W : World} {B e sz n g : Nat} {cs : Array Value} (h : Blk W g e cs) (hB : B ≤ g) (hn : n ≤ maxLen) (hs : cs.size = n * sz) : W.ownsRow B e sz (.slice (some ⟨g, 0, none⟩) n n) n cs.toList :=
  ⟨by simpa using hs, .inr ⟨g, n, cs, rfl, hB, h, Nat.le_refl _, hn, hs, by rw [List.take_of_length_le (by simp; omega)]⟩⟩
section
variable {w W W' : World} {g : Nat}
theorem gr_refl (w : World) (r : Option Nat) : w.grownBy w r := grown_of_below (Below.refl _ _) r
theorem gr_more {r : Option Nat} (h : w.grownBy W (some g)) (k : W.grownBy W' r) (hr : ∀ q, r = some q → q = g ∨ w.heap.size ≤ q) : w.grownBy W' (some g) :=
  ⟨k.os.trans h.os, k.tape.trans h.tape, k.output.trans h.output, Nat.le_trans h.size k.size, fun b hb hne => (k.block b (Nat.lt_of_lt_of_le hb h.size) (fun e => by
    rcases hr b e.symm with rfl | hl
    · exact hne rfl
    · omega)).trans (h.block b hb hne)⟩
theorem gr_below (h : w.grownBy W (some g)) (k : Below W.heap.size W W') : w.grownBy W' (some g) := gr_more h (grown_of_below k none) (fun _ e => by cases e)
theorem gr_alloc (h : w.grownBy W (some g)) (o : Obj) : w.grownBy (W.alloc o) (some g) := gr_below h ((Below.refl _ _).alloc (Nat.le_refl _) _)
theorem gr_drew (h : w.grownBy W (some g)) : w.grownBy W.drew (some g) := gr_below h (Below.refl _ _).drew
theorem gr_set (h : w.grownBy W (some g)) (q i : Nat) (u : Value) (hq : q = g ∨ w.heap.size ≤ q) : w.grownBy (W.setCell ⟨q, i, none⟩ u) (some g) := gr_more h (grown_set W q i u) (fun _ e => by cases e; exact hq)
theorem gr_end {B : Nat} {w0 : World} (hb : Below B w0 w) (h : w.grownBy W (some g)) (hg : B ≤ g) (hB : B ≤ w.heap.size) : Below B w0 W :=
  ⟨h.os.trans hb.os, h.tape.trans hb.tape, h.output.trans hb.output, Nat.le_trans hb.size h.size, fun k hk => (h.block k (by omega) (fun e => by cases e; omega)).trans (hb.block k hk)⟩
theorem gr_cell (h : w.grownBy W (some g)) {p : Addr} (hl : p.block < w.heap.size) (hne : p.block ≠ g) : W.cell? p = w.cell? p := by
  have hb := h.block p.block hl (fun e => hne (by cases e; rfl))
  unfold World.cell?
  rw [hb]
theorem gr_blk {t : TypeId} {b : Nat} {cs : Array Value} (h : w.grownBy W (some g)) (hb : Blk w b t cs) (hne : b ≠ g) : Blk W b t cs := hb.grown h (fun e => hne (by cases e; rfl))
end
section
variable {w W : World} {g : Nat} {cs : Array Value}
theorem gr_parts (h : w.grownBy W (some g)) (hb : Blk w g 54 cs) {l : List PartD} {v : Value} (hr : Rd w (partsD l) v) : Rd W (partsD l) v := Rd.grown h hb _ _ (free_parts _ (by decide) l) hr
theorem gr_flows (h : w.grownBy W (some g)) (hb : Blk w g 54 cs) {l : List FlowD} {v : Value} (hr : Rd w (flowsD l) v) : Rd W (flowsD l) v := Rd.grown h hb _ _ (free_flows _ (by decide) l) hr
theorem gr_seqs (h : w.grownBy W (some g)) (hb : Blk w g 54 cs) {l : List SeqD} {v : Value} (hr : Rd w (seqsD l) v) : Rd W (seqsD l) v := Rd.grown h hb _ _ (free_seqs _ (by decide) l) hr
theorem gr_msgs (h : w.grownBy W (some g)) (hb : Blk w g 54 cs) {l : List PartD} {v : Value} (hr : Rd w (msgsD l) v) : Rd W (msgsD l) v := Rd.grown h hb _ _ (free_msgs _ (by decide) l) hr
theorem gr_items (h : w.grownBy W (some g)) (hb : Blk w g 54 cs) {l : List ItemD} {v : Value} (hr : Rd w (itemsD l) v) : Rd W (itemsD l) v :=
  Rd.grown h hb _ _ (by unfold itemsD datS Dat.free; rw [← itemsC_flat]; exact ⟨by decide, free_itemL _ (by decide) (by decide) (by decide) (by decide) l⟩) hr
theorem gr_itemL (h : w.grownBy W (some g)) (hb : Blk w g 54 cs) {l : List ItemD} {xs : List Value} (hr : RdL w (l.flatMap itemC) xs) : RdL W (l.flatMap itemC) xs :=
  RdL.grown h hb _ _ (by rw [← itemsC_flat]; exact free_itemL _ (by decide) (by decide) (by decide) (by decide) l) hr
theorem gr_seqL (h : w.grownBy W (some g)) (hb : Blk w g 54 cs) {l : List SeqD} {xs : List Value} (hr : RdL w (l.flatMap seqC) xs) : RdL W (l.flatMap seqC) xs :=
  RdL.grown h hb _ _ (free_flat (fun x => by unfold seqC; simp [freeL, Dat.free]) l) hr
theorem gr_flowL (h : w.grownBy W (some g)) (hb : Blk w g 54 cs) {l : List FlowD} {xs : List Value} (hr : RdL w (l.flatMap flowC) xs) : RdL W (l.flatMap flowC) xs :=
  RdL.grown h hb _ _ (free_flat (fun x => by unfold flowC; simp [freeL, Dat.free]) l) hr
theorem gr_chorL (h : w.grownBy W (some g)) (hb : Blk w g 54 cs) {x : ChorD} {xs : List Value} (hr : RdL w (chorC x) xs) : RdL W (chorC x) xs :=
  RdL.grown h hb _ _ (free_chor _ (by decide) (by decide) (by decide) (by decide) (by decide) (by decide) x) hr
end
/-- A row's element is another. -/
theorem elem_set {α : Type} {W : World} {sz : Nat} {f : α → List Dat} (hf : ∀ x, (f x).length = sz) {y : α} {k : Nat} {u : Value} (hk : k < sz) : ∀ (l : List α) (j : Nat) (hj : j < l.length) (xs : List Value), (∀ vs, RdL W (f l[j]) vs → RdL W (f y) (vs.set k u)) → RdL W (l.flatMap f) xs → RdL W ((l.set j y).flatMap f) (xs.set (j * sz + k) u)
  | x :: l, 0, _, xs, hy, h => by
    rw [List.flatMap_cons] at h
    obtain ⟨a, b, rfl, ha, hb⟩ := h.split
    have hl := ha.len
    rw [hf] at hl
    rw [List.set_cons_zero, List.flatMap_cons, Nat.zero_mul, Nat.zero_add, List.set_append_left _ _ (by omega)]
    exact RdL.append (hy a ha) hb
  | x :: l, j + 1, hj, xs, hy, h => by
    rw [List.flatMap_cons] at h
    obtain ⟨a, b, rfl, ha, hb⟩ := h.split
    have hl := ha.len
    rw [hf] at hl
    rw [List.set_cons_succ, List.flatMap_cons, List.set_append_right _ _ (by rw [hl, Nat.succ_mul]; omega), hl, show (j + 1) * sz + k - sz = j * sz + k by rw [Nat.succ_mul]; omega]
    exact RdL.append ha (elem_set hf hk l j (by simpa using hj) b hy hb)
/-- One choreography in its block, and those behind it. -/
theorem chors_blk {W : World} {g : Nat} {c : ChorD} {r : List ChorD} {vP vF vI vS : Value} {xs : List Value} {n : Nat} (hb : Blk W g 54 (#[.string c.id, vP, vF, vI, vS] ++ xs.toArray)) (hn : n = r.length + 1) (hm : n ≤ maxLen)
    (hP : Rd W (partsD c.parts) vP) (hF : Rd W (flowsD c.flows) vF) (hI : Rd W (itemsD c.items) vI) (hS : Rd W (seqsD c.seqs) vS) (hr : RdL W (r.flatMap chorC) xs) : Rd W (chorsD (c :: r)) (.slice (some ⟨g, 0, none⟩) n n) := by
  have hl := hr.len
  have hlen : (r.flatMap chorC).length = r.length * 5 := by
    rw [List.length_flatMap]
    have : ∀ l : List ChorD, (l.map fun a => (chorC a).length).sum = l.length * 5 := fun l => by
      induction l with
      | nil => rfl
      | cons x l ih => rw [List.map_cons, List.sum_cons, ih, chorC_len, List.length_cons]; omega
    exact this r
  refine rd_ownR (own_of_blkC (B := 0) (sz := 5) hb (Nat.zero_le _) hm (by simp; omega)) ?_ (by simp [hn])
  rw [List.flatMap_cons, show (#[Value.string c.id, vP, vF, vI, vS] ++ xs.toArray).toList = [Value.string c.id, vP, vF, vI, vS] ++ xs by simp]
  exact RdL.append (rd_chorC.2 ⟨vP, vF, vI, vS, rfl, hP, hF, hI, hS⟩) hr
end Go.Proofs.Ytljmghaplnkohaa
