/- What calls and items of inline may turn in memory; what is kept; slices.Contains. -/
import Derived.Test.YteoioboiniealaaInlE
import Derived.Test.YteoioboiniealaaApp
namespace Go.Proofs.Yteoioboiniealaa
open Go.RowKit

/-- From w to w' nothing below block B has turned, and of what was there only blocks of makers and of message flows. -/
structure Mk (B : Nat) (w w' : World) : Prop where
  os : w'.os = w.os
  tape : w'.tape = w.tape
  output : w'.output = w.output
  size : w.heap.size ≤ w'.heap.size
  low : ∀ b, b < B → w'.heap[b]? = w.heap[b]?
  typ : ∀ (b : Nat) (cs : Array Value) (t : TypeId) (fr : Nat × Nat), w.heap[b]? = some (.cells cs t fr) → t ≠ 40 → t ≠ 108 → w'.heap[b]? = some (.cells cs t fr)
section
variable {B : Nat} {w w1 w2 : World}
theorem heap_lt {w : World} {b : Nat} {o : Obj} (h : w.heap[b]? = some o) : b < w.heap.size := by
  rcases Nat.lt_or_ge b w.heap.size with hl | hl
  · exact hl
  · rw [Array.getElem?_eq_none hl] at h; cases h
theorem Mk.refl (B : Nat) (w : World) : Mk B w w := ⟨rfl, rfl, rfl, Nat.le_refl _, fun _ _ => rfl, fun _ _ _ _ h _ _ => h⟩
theorem Mk.trans (h : Mk B w w1) (k : Mk B w1 w2) : Mk B w w2 :=
  ⟨k.os.trans h.os, k.tape.trans h.tape, k.output.trans h.output, Nat.le_trans h.size k.size, fun b hb => (k.low b hb).trans (h.low b hb), fun b cs t fr hb h1 h2 => k.typ b cs t fr (h.typ b cs t fr hb h1 h2) h1 h2⟩
theorem Mk.of_below (h : Below w.heap.size w w1) (hB : B ≤ w.heap.size) : Mk B w w1 :=
  ⟨h.os, h.tape, h.output, h.size, fun b hb => h.block b (Nat.lt_of_lt_of_le hb hB), fun b _ _ _ hb _ _ => (h.block b (heap_lt hb)).trans hb⟩
theorem Mk.below (h : Mk B w w1) (k : Below w1.heap.size w1 w2) (hB : B ≤ w.heap.size) : Mk B w w2 := h.trans (.of_below k (Nat.le_trans hB h.size))
theorem Mk.drew (h : Mk B w w1) : Mk B w w1.drew := ⟨h.os, h.tape, h.output, h.size, h.low, h.typ⟩
theorem Mk.drewN (h : Mk B w w1) (n : Nat) : Mk B w (w1.drewN n) := ⟨h.os, h.tape, h.output, h.size, h.low, h.typ⟩
theorem Mk.alloc (h : Mk B w w1) (o : Obj) (hB : B ≤ w.heap.size) : Mk B w (w1.alloc o) := h.below ((Below.refl _ _).alloc (Nat.le_refl _) o) hB
theorem Mk.to_below (h : Mk B w w1) : Below B w w1 := ⟨h.os, h.tape, h.output, h.size, h.low⟩
/-- A store into a block of a maker, or of message flows, that lies high enough; a store into a block that is new since w. -/
theorem Mk.setCell (h : Mk B w w1) {p : Addr} (u : Value) (hB : B ≤ p.block) {cs : Array Value} {t : TypeId} {fr : Nat × Nat} (hp : w1.heap[p.block]? = some (.cells cs t fr)) (ht : t = 40 ∨ t = 108) : Mk B w (w1.setCell p u) := by
  refine ⟨h.os, h.tape, h.output, Nat.le_trans h.size (by simp [World.setCell]), fun b hb => (Below.heap_setCell w1 p u b (by omega)).trans (h.low b hb), fun b cs' t' fr' hb h1 h2 => ?_⟩
  have h3 := h.typ b cs' t' fr' hb h1 h2
  refine (Below.heap_setCell w1 p u b ?_).trans h3
  rintro rfl
  rw [hp] at h3
  injection h3 with h3
  injection h3 with _ ht' _
  subst ht'
  rcases ht with ht | ht
  · exact h1 ht
  · exact h2 ht
theorem Mk.setNew (h : Mk B w w1) {p : Addr} (u : Value) (hp : w.heap.size ≤ p.block) (hB : B ≤ w.heap.size) : Mk B w (w1.setCell p u) :=
  ⟨h.os, h.tape, h.output, Nat.le_trans h.size (by simp [World.setCell]), fun b hb => (Below.heap_setCell w1 p u b (by omega)).trans (h.low b hb), fun b cs' t' fr' hb h1 h2 =>
    (Below.heap_setCell w1 p u b (by have := heap_lt hb; omega)).trans (h.typ b cs' t' fr' hb h1 h2)⟩
/-- An append onto the row of message flows. -/
theorem Mk.flows (h : Mk B w w1) {base n : Nat} {v : Value} {xs : List Value} (ho : w1.ownsRow base 40 4 v n xs) (hg : w1.grownBy w2 v.ownBlock) (hB : B ≤ base) (hs : B ≤ w.heap.size) : Mk B w w2 := by
  refine ⟨hg.os.trans h.os, hg.tape.trans h.tape, hg.output.trans h.output, Nat.le_trans h.size hg.size, fun b hb => ?_, fun b cs' t' fr' hb h1 h2 => ?_⟩
  · refine (hg.block b (by have := h.size; omega) (fun e => ?_)).trans (h.low b hb)
    have := ho.lt b e.symm
    omega
  · have h3 := h.typ b cs' t' fr' hb h1 h2
    refine (hg.block b (heap_lt h3) (fun e => ?_)).trans h3
    rcases ho.2 with ⟨rfl, _⟩ | ⟨g', cap, cur, rfl, _, hh, _⟩
    · simp [Value.ownBlock] at e
    · have : b = g' := by simpa [Value.ownBlock] using e
      subst this
      rw [hh] at h3
      injection h3 with h3
      injection h3 with _ ht _
      exact h1 ht.symm
/-- A row of another type is kept. -/
theorem own_mk {base e size n : Nat} {v : Value} {xs : List Value} (h : w.ownsRow base e size v n xs) (hm : Mk B w w1) (h1 : e ≠ 40) (h2 : e ≠ 108) : w1.ownsRow base e size v n xs :=
  ⟨h.1, h.2.imp id fun ⟨g, cap, cur, a, b, hh, r⟩ => ⟨g, cap, cur, a, b, hm.typ g cur e (0, 0) hh h1 h2, r⟩⟩
theorem Blk.mk_ {g : Nat} {t : TypeId} {cs : Array Value} (h : Blk w g t cs) (hm : Mk B w w1) (h1 : t ≠ 40) (h2 : t ≠ 108) : Blk w1 g t cs := hm.typ g cs t (0, 0) h h1 h2
end
mutual
/-- No slice of message flows, or of makers, within. -/
def Dat.fm : Dat → Prop
  | .sl e _ _ cs => e ≠ 40 ∧ e ≠ 108 ∧ fmL cs
  | .int _ => True
  | .str _ => True
  | .bool _ => True
def fmL : List Dat → Prop
  | [] => True
  | d :: ds => Dat.fm d ∧ fmL ds
end
mutual
theorem Rd.mk_ {B : Nat} {w w1 : World} (hm : Mk B w w1) : ∀ (d : Dat) (v : Value), Dat.fm d → Rd w d v → Rd w1 d v
  | .int _, _, _, h => by unfold Rd at *; exact h
  | .str _, _, _, h => by unfold Rd at *; exact h
  | .bool _, _, _, h => by unfold Rd at *; exact h
  | .sl e sz n ds, v, hf, h => by
    unfold Dat.fm at hf
    unfold Rd at *
    obtain ⟨A, c, xs, hv, ho, hl⟩ := h
    exact ⟨A, c, xs, hv, own_mk ho hm hf.1 hf.2.1, RdL.mk_ hm ds xs hf.2.2 hl⟩
theorem RdL.mk_ {B : Nat} {w w1 : World} (hm : Mk B w w1) : ∀ (ds : List Dat) (xs : List Value), fmL ds → RdL w ds xs → RdL w1 ds xs
  | [], _, _, h => by unfold RdL at *; exact h
  | d :: ds, xs, hf, h => by
    unfold fmL at hf
    unfold RdL at *
    obtain ⟨v, r, hx, hd, hl⟩ := h
    exact ⟨v, r, hx, Rd.mk_ hm d v hf.1 hd, RdL.mk_ hm ds r hf.2 hl⟩
end
mutual
theorem RdP.mk_ {B : Nat} {w w1 : World} {S : Nat → Prop} (hm : Mk B w w1) : ∀ (d : Dat) (v : Value), Dat.fm d → RdP S w d v → RdP S w1 d v
  | .int _, _, _, h => by unfold RdP at *; exact h
  | .str _, _, _, h => by unfold RdP at *; exact h
  | .bool _, _, _, h => by unfold RdP at *; exact h
  | .sl e sz n ds, v, hf, h => by
    unfold Dat.fm at hf
    unfold RdP at *
    obtain ⟨A, c, xs, hv, ho, hs, hl⟩ := h
    exact ⟨A, c, xs, hv, own_mk ho hm hf.1 hf.2.1, hs, RdPL.mk_ hm ds xs hf.2.2 hl⟩
theorem RdPL.mk_ {B : Nat} {w w1 : World} {S : Nat → Prop} (hm : Mk B w w1) : ∀ (ds : List Dat) (xs : List Value), fmL ds → RdPL S w ds xs → RdPL S w1 ds xs
  | [], _, _, h => by unfold RdPL at *; exact h
  | d :: ds, xs, hf, h => by
    unfold fmL at hf
    unfold RdPL at *
    obtain ⟨v, r, hx, hd, hl⟩ := h
    exact ⟨v, r, hx, RdP.mk_ hm d v hf.1 hd, RdPL.mk_ hm ds r hf.2 hl⟩
end
theorem fmL_append : ∀ {a b : List Dat}, fmL a → fmL b → fmL (a ++ b)
  | [], _, _, h => h
  | d :: a, b, h, k => by
    unfold fmL at h
    show fmL (d :: (a ++ b))
    unfold fmL
    exact ⟨h.1, fmL_append h.2 k⟩
theorem fm_sl {e sz n : Nat} {cs : List Dat} (h1 : e ≠ 40) (h2 : e ≠ 108) (h : fmL cs) : Dat.fm (.sl e sz n cs) := by
  unfold Dat.fm; exact ⟨h1, h2, h⟩
theorem fm_flat {α : Type} {f : α → List Dat} (h : ∀ x, fmL (f x)) : ∀ l : List α, fmL (l.flatMap f)
  | [] => by unfold fmL; trivial
  | x :: l => by rw [List.flatMap_cons]; exact fmL_append (h x) (fm_flat h l)
theorem fm_strs (l : List ByteArray) : Dat.fm (strsD l) := fm_sl (by decide) (by decide) (fm_flat (fun x => by unfold strC; simp [fmL, Dat.fm]) l)
theorem fm_maps (l : List MapD) : Dat.fm (mapsD l) := fm_sl (by decide) (by decide) (fm_flat (fun x => by unfold mapC; simp [fmL, Dat.fm]) l)
theorem fm_seqs (l : List SeqD) : Dat.fm (seqsD l) := fm_sl (by decide) (by decide) (fm_flat (fun x => by unfold seqC; simp [fmL, Dat.fm]) l)
theorem fm_parts (l : List PartD) : Dat.fm (partsD l) := fm_sl (by decide) (by decide) (fm_flat (fun x => by unfold partC; simp [fmL, Dat.fm]) l)
mutual
theorem fm_item : ∀ x : ItemD, fmL (itemC x)
  | ⟨kind, id, first, parts, flows, loop, called, maps, items, seqs⟩ => by
    rw [itemC]
    have h1 := fm_strs parts
    have h2 := fm_strs flows
    have h3 := fm_maps maps
    have h4 : Dat.fm (.sl 33 10 items.length (itemsC items)) := fm_sl (by decide) (by decide) (fm_itemL items)
    have h5 := fm_seqs seqs
    simp only [fmL, Dat.fm, and_true, true_and] at *
    exact ⟨h1, h2, h3, h4, h5⟩
theorem fm_itemL : ∀ l : List ItemD, fmL (itemsC l)
  | [] => by rw [itemsC]; unfold fmL; trivial
  | x :: l => by rw [itemsC]; exact fmL_append (fm_item x) (fm_itemL l)
end
theorem fm_items (l : List ItemD) : Dat.fm (itemsD l) := by
  unfold itemsD datS
  rw [← itemsC_flat]
  exact fm_sl (by decide) (by decide) (fm_itemL l)

def flowV (x : FlowD) : List Value := [.string x.id, .string x.src, .string x.dst, .string x.msg]
/-- Block m is a maker's: the document, the message flows so far (a row of its own), how many items, what is wrong. -/
structure MkSt (w : World) (m B : Nat) (vM vC : Value) (s : MkS) : Prop where
  row : ∃ vF, Blk w m 108 (mkC vM vC vF s.n s.e) ∧ w.ownsRow B 40 4 vF s.flows.length (s.flows.flatMap flowV)
  hm : B ≤ m
theorem MkSt.below {w w1 : World} {m B : Nat} {vM vC : Value} {s : MkS} (h : MkSt w m B vM vC s) (hb : Below w.heap.size w w1) : MkSt w1 m B vM vC s := by
  obtain ⟨⟨vF, h1, h2⟩, h3⟩ := h
  exact ⟨⟨vF, h1.below hb h1.lt, own_below h2 hb⟩, h3⟩
/-- How a way through items, or a call, ends. -/
theorem itemsG_nil {one : MkS → ItemD → Option (ItemD × MkS)} (s : MkS) (out : List ItemD) : itemsG one [] s out = some (out, s) := rfl
theorem itemsG_stop {one : MkS → ItemD → Option (ItemD × MkS)} {x : ItemD} {l : List ItemD} {s : MkS} {out : List ItemD} (h : (stepS s).e ≠ 0) : itemsG one (x :: l) s out = some ([], stepS s) := by
  unfold itemsG; rw [if_pos h]
theorem itemsG_go {one : MkS → ItemD → Option (ItemD × MkS)} {x : ItemD} {l : List ItemD} {s : MkS} {out : List ItemD} (h : (stepS s).e = 0) : itemsG one (x :: l) s out = (match one (stepS s) x with | none => none | some (y, s2) => itemsG one l s2 (out ++ [y])) := by
  conv => lhs; unfold itemsG
  rw [if_neg (by simpa using h)]
  cases one (stepS s) x <;> rfl
theorem itemsG_len {one : MkS → ItemD → Option (ItemD × MkS)} : ∀ (l : List ItemD) (s : MkS) (out : List ItemD) (r : List ItemD) (s' : MkS), itemsG one l s out = some (r, s') → r.length ≤ out.length + l.length
  | [], s, out, r, s', h => by
    rw [itemsG_nil] at h
    injection h with h
    injection h with h _
    rw [← h]; simp
  | x :: l, s, out, r, s', h => by
    by_cases he : (stepS s).e = 0
    · rw [itemsG_go he] at h
      split at h
      · cases h
      · have := itemsG_len l _ _ _ _ h
        simp at this ⊢
        omega
    · rw [itemsG_stop he] at h
      injection h with h
      injection h with h _
      rw [← h]; simp
/-- What is counted only grows. -/
def Grows (s s' : MkS) : Prop := s.n ≤ s'.n ∧ s.flows.length ≤ s'.flows.length
theorem itemsG_grows {one : MkS → ItemD → Option (ItemD × MkS)} (ho : ∀ s x y s', one s x = some (y, s') → Grows s s') : ∀ (l : List ItemD) (s : MkS) (out : List ItemD) (r : List ItemD) (s' : MkS), itemsG one l s out = some (r, s') → Grows s s'
  | [], s, out, r, s', h => by
    rw [itemsG_nil] at h
    injection h with h
    injection h with _ h
    rw [← h]; exact ⟨Int.le_refl _, Nat.le_refl _⟩
  | x :: l, s, out, r, s', h => by
    by_cases he : (stepS s).e = 0
    · rw [itemsG_go he] at h
      split at h
      · cases h
      · rename_i y s2 hy
        have h1 := ho _ _ _ _ hy
        have h2 := itemsG_grows ho l _ _ _ _ h
        exact ⟨by have h3 := h1.1; have h4 := h2.1; simp only [stepS] at h3; omega, by have h3 := h1.2; have h4 := h2.2; simp only [stepS] at h3; omega⟩
    · rw [itemsG_stop he] at h
      injection h with h
      injection h with _ h
      rw [← h]; exact ⟨by simp only [stepS]; omega, Nat.le_refl _⟩
theorem callG_grows {d : DocD} {rec : ByteArray → List MapD → List ByteArray → List ItemD → MkS → Option (List ItemD × MkS)} (hr : ∀ p ms op l s r s', rec p ms op l s = some (r, s') → Grows s s') {p : ByteArray} {ms : List MapD} {op : List ByteArray} (s : MkS) (x y : ItemD) (s' : MkS) (h : callG d rec p ms op s x = some (y, s')) : Grows s s' := by
  unfold callG at h
  split at h
  · injection h with h; injection h with _ h; rw [← h]; exact ⟨Int.le_refl _, Nat.le_refl _⟩
  · split at h
    · injection h with h; injection h with _ h; rw [← h]; exact ⟨Int.le_refl _, Nat.le_refl _⟩
    · split at h
      · cases h
      · split at h
        · cases h
        · rename_i r hrr
          injection h with h
          injection h with _ h
          have := hr _ _ _ _ _ r.1 r.2 hrr
          rw [← h]
          refine ⟨this.1, Nat.le_trans ?_ this.2⟩
          simp
theorem itemsF_grows (d : DocD) : ∀ (f : Nat) (p : ByteArray) (ms : List MapD) (op : List ByteArray) (l : List ItemD) (s : MkS) (r : List ItemD) (s' : MkS), itemsF d f p ms op l s = some (r, s') → Grows s s'
  | 0, _, _, _, _, _, _, _, h => by unfold itemsF at h; cases h
  | f + 1, p, ms, op, l, s, r, s', h => by
    unfold itemsF at h
    refine itemsG_grows (fun s x y s' h => ?_) l s [] r s' h
    unfold oneG at h
    split at h
    · exact callG_grows (itemsF_grows d f) s x y s' h
    · split at h
      · cases h
      · rename_i q hq
        injection h with h
        injection h with _ h
        rw [← h]
        exact itemsF_grows d f _ _ _ _ _ q.1 q.2 hq
end Go.Proofs.Yteoioboiniealaa
