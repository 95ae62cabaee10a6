/- The walk of the law InlineBad. -/
import Derived.Test.YteoioboiniealaaInlL
namespace Go.Proofs.Yteoioboiniealaa
open Go.RowKit
attribute [local go_sem ↓] Go.wp_at_zero Go.wp_at_succ

/-- A block that is known whole, as a slice of so many. -/
theorem rd_blk {w : World} {g e sz n cap : Nat} {cs : Array Value} {ds : List Dat} (hb : Blk w g e cs) (hl : RdL w ds (cs.toList.take (n * sz))) (hn : n ≤ cap) (hm : cap ≤ maxLen) (hs : cs.size = cap * sz) (hd : ds.length = n * sz) : Rd w (.sl e sz n ds) (.slice (some ⟨g, 0, none⟩) n cap) := by
  have hl2 := hl.len
  refine rd_sl.2 ⟨_, _, _, rfl, ⟨by omega, .inr ⟨g, cap, cs, rfl, Nat.zero_le _, hb, hn, hm, hs, ?_⟩⟩, hl⟩
  rfl
def itemK (k : Int) (id called : ByteArray) : ItemD := ⟨k, id, ⟨#[]⟩, [], [], false, called, [], [], []⟩
def itemKV (k : Int) (id called : ByteArray) : List Value := [.int .i64 k, .string id, .string ⟨#[]⟩, .slice none 0 0, .slice none 0 0, .bool false, .string called, .slice none 0 0, .slice none 0 0, .slice none 0 0]
theorem rdl_itemK {w : World} (k : Int) (id called : ByteArray) : RdL w (itemC (itemK k id called)) (itemKV k id called) := rd_itemC.2 ⟨_, _, _, _, _, rfl, itemV_nil rfl rfl rfl rfl rfl⟩
def endsL : List ItemD := [itemK 1 ⟨#[115]⟩ ⟨#[]⟩, itemK 2 ⟨#[101]⟩ ⟨#[]⟩]
def endsV : List Value := itemKV 1 ⟨#[115]⟩ ⟨#[]⟩ ++ itemKV 2 ⟨#[101]⟩ ⟨#[]⟩
theorem rdl_ends {w : World} : RdL w (endsL.flatMap itemC) endsV := by
  unfold endsL endsV
  rw [List.flatMap_cons, List.flatMap_cons, List.flatMap_nil, List.append_nil]
  exact (rdl_itemK _ _ _).append (rdl_itemK _ _ _)
def gI : ItemD := itemK 4 ⟨#[103]⟩ ⟨#[]⟩
def gV : List Value := itemKV 4 ⟨#[103]⟩ ⟨#[]⟩
def chA : ChorD := ⟨⟨#[97]⟩, [], [], [itemK 8 ⟨#[120]⟩ ⟨#[98]⟩], []⟩
def chB (l : List ItemD) : ChorD := ⟨⟨#[98]⟩, [], [], l, []⟩
/-- What InlineBad knows of memory: the blocks of the call, of the choreographies, of the document; the row of items. -/
structure BadS (w : World) (v : Value) (n : Nat) (cells : List Value) (W : World) : Prop where
  bel : Below w.heap.size w W
  b1 : Blk W (w.heap.size + 1) 33 #[.int .i64 8, .string ⟨#[120]⟩, .string ⟨#[]⟩, .slice none 0 0, .slice none 0 0, .bool false, .string ⟨#[98]⟩, .slice none 0 0, .slice none 0 0, .slice none 0 0]
  b2 : Blk W (w.heap.size + 1 + 1) 28 #[.string ⟨#[97]⟩, .slice none 0 0, .slice none 0 0, .slice (some ⟨w.heap.size + 1, 0, none⟩) 1 1, .slice none 0 0, .string ⟨#[98]⟩, .slice none 0 0, .slice none 0 0, v, .slice none 0 0]
  bD : Blk W (w.heap.size + 1 + 1 + 1) 61 #[.slice none 0 0, .slice (some ⟨w.heap.size + 1 + 1, 0, none⟩) 2 2]
  own : W.ownsRow w.heap.size 33 10 v n cells
  ne : v.ownBlock ≠ some (w.heap.size + 1)
theorem rd_call {w W : World} (h : Blk W (w.heap.size + 1) 33 #[.int .i64 8, .string ⟨#[120]⟩, .string ⟨#[]⟩, .slice none 0 0, .slice none 0 0, .bool false, .string ⟨#[98]⟩, .slice none 0 0, .slice none 0 0, .slice none 0 0]) : Rd W (itemsD [itemK 8 ⟨#[120]⟩ ⟨#[98]⟩]) (.slice (some ⟨w.heap.size + 1, 0, none⟩) 1 1) :=
  rd_blk (n := 1) h (by rw [List.flatMap_cons, List.flatMap_nil, List.append_nil]; exact rdl_itemK _ _ _) (Nat.le_refl _) (by decide) rfl (by rw [List.flatMap_cons, List.flatMap_nil, List.append_nil, itemC_len])
theorem rd_two {w W : World} {v : Value} {l : List ItemD} (h1 : Blk W (w.heap.size + 1) 33 #[.int .i64 8, .string ⟨#[120]⟩, .string ⟨#[]⟩, .slice none 0 0, .slice none 0 0, .bool false, .string ⟨#[98]⟩, .slice none 0 0, .slice none 0 0, .slice none 0 0]) (h2 : Blk W (w.heap.size + 1 + 1) 28 #[.string ⟨#[97]⟩, .slice none 0 0, .slice none 0 0, .slice (some ⟨w.heap.size + 1, 0, none⟩) 1 1, .slice none 0 0, .string ⟨#[98]⟩, .slice none 0 0, .slice none 0 0, v, .slice none 0 0]) (hv : Rd W (itemsD l) v) : Rd W (chorsD [chA, chB l]) (.slice (some ⟨w.heap.size + 1 + 1, 0, none⟩) 2 2) := by
  refine rd_blk (n := 2) h2 ?_ (Nat.le_refl _) (by decide) rfl rfl
  rw [List.flatMap_cons, List.flatMap_cons, List.flatMap_nil, List.append_nil]
  exact RdL.append (xs := [.string ⟨#[97]⟩, .slice none 0 0, .slice none 0 0, .slice (some ⟨w.heap.size + 1, 0, none⟩) 1 1, .slice none 0 0]) (ys := [.string ⟨#[98]⟩, .slice none 0 0, .slice none 0 0, v, .slice none 0 0]) (rd_chorC.2 ⟨_, _, _, _, rfl, rd_nil, rd_nil, rd_call h1, rd_nil⟩) (rd_chorC.2 ⟨_, _, _, _, rfl, rd_nil, rd_nil, hv, rd_nil⟩)
theorem rd_first {w W : World} {v : Value} (h1 : Blk W (w.heap.size + 1) 33 #[.int .i64 8, .string ⟨#[120]⟩, .string ⟨#[]⟩, .slice none 0 0, .slice none 0 0, .bool false, .string ⟨#[98]⟩, .slice none 0 0, .slice none 0 0, .slice none 0 0]) (h2 : Blk W (w.heap.size + 1 + 1) 28 #[.string ⟨#[97]⟩, .slice none 0 0, .slice none 0 0, .slice (some ⟨w.heap.size + 1, 0, none⟩) 1 1, .slice none 0 0, .string ⟨#[98]⟩, .slice none 0 0, .slice none 0 0, v, .slice none 0 0]) : Rd W (chorsD [chA]) (.slice (some ⟨w.heap.size + 1 + 1, 0, none⟩) 1 2) := by
  refine rd_blk (n := 1) h2 ?_ (by omega) (by decide) rfl rfl
  rw [List.flatMap_cons, List.flatMap_nil, List.append_nil]
  exact rd_chorC.2 ⟨_, _, _, _, rfl, rd_nil, rd_nil, rd_call h1, rd_nil⟩
section
variable {w W W2 : World} {v : Value} {n : Nat} {cells : List Value}
theorem BadS.items {l : List ItemD} (h : BadS w v l.length cells W) (hl : RdL W (l.flatMap itemC) cells) : Rd W (itemsD l) v := by
  obtain ⟨A, c, rfl, _, _⟩ := own_slice h.own
  exact rd_sl.2 ⟨A, c, cells, rfl, own_mono h.own (Nat.zero_le _), hl⟩
theorem BadS.below (h : BadS w v n cells W) (hb : Below W.heap.size W W2) : BadS w v n cells W2 :=
  ⟨h.bel.trans (hb.mono h.bel.size), h.b1.below hb h.b1.lt, h.b2.below hb h.b2.lt, h.bD.below hb h.bD.lt, own_below h.own hb, h.ne⟩
/-- An item more, and the choreography told of it. -/
theorem BadS.push {o : Obj} {news : List Value} {gA capA : Nat} (h : BadS w v n cells W) (hown : W2.ownsRow w.heap.size 33 10 (.slice (some ⟨gA, 0, none⟩) (n + 1) capA) (n + 1) (cells ++ news)) (hgrow : (W.alloc o).grownBy W2 v.ownBlock) (hat : v.ownBlock = some gA ∨ gA = W.heap.size + 1) :
    BadS w (.slice (some ⟨gA, 0, none⟩) (n + 1) capA) (n + 1) (cells ++ news) (W2.setCell ⟨w.heap.size + 1 + 1, 8, none⟩ (.slice (some ⟨gA, 0, none⟩) (n + 1) capA)) := by
  have hb : Below w.heap.size w W2 := (h.bel.alloc h.bel.size o).grown hgrow (by have := h.bel.size; simp; omega) (fun k hk => (h.own.lt k hk).1)
  have h2 := (h.b2.alloc o).grown hgrow (Ne.symm (blk_own_ne h.own h.b2 (by decide)))
  have hD := (h.bD.alloc o).grown hgrow (Ne.symm (blk_own_ne h.own h.bD (by decide)))
  have h1 := (h.b1.alloc o).grown hgrow (Ne.symm h.ne)
  refine ⟨hb.setCell (by show w.heap.size ≤ w.heap.size + 1 + 1; omega) _, h1.far (by show w.heap.size + 1 ≠ w.heap.size + 1 + 1; omega) _, h2.set_ 8 _, hD.far (by show w.heap.size + 1 + 1 + 1 ≠ w.heap.size + 1 + 1; omega) _, ownsRow_setCell_other hown (blk_own_ne hown h2 (by decide)) _, fun e => ?_⟩
  have e1 : gA = w.heap.size + 1 := by simpa [Value.ownBlock] using e
  rcases hat with h3 | h3
  · exact h.ne (by rw [h3, e1])
  · have := h.b1.lt; omega
theorem setAll_mid {t : TypeId} {g : Nat} : ∀ (vs : List Value) (i : Nat) (w : World) (cs : Array Value), Blk w g t cs → i + vs.length ≤ cs.size → Blk (setAll w g i vs) g t (cs.toList.take i ++ vs ++ cs.toList.drop (i + vs.length)).toArray
  | [], i, w, cs, h, hl => by
    simp only [setAll, List.append_nil, List.length_nil, Nat.add_zero, List.take_append_drop]
    exact h
  | v :: vs, i, w, cs, h, hl => by
    have hl' : i < cs.size := by simp at hl; omega
    have h1 := setAll_mid vs (i + 1) (w.setCell ⟨g, i, none⟩ v) (cs.setIfInBounds i v) (h.set_ i v) (by simp at hl ⊢; omega)
    have e : (cs.setIfInBounds i v).toList.take (i + 1) ++ vs ++ (cs.setIfInBounds i v).toList.drop (i + 1 + vs.length) = cs.toList.take i ++ v :: vs ++ cs.toList.drop (i + (v :: vs).length) := by
      rw [Array.toList_setIfInBounds, List.take_succ_eq_append_getElem (by simpa using hl'), List.take_set_of_le (Nat.le_refl _), List.drop_set_of_lt (by omega)]
      simp
      congr 1
      omega
    rw [e] at h1
    exact h1
theorem own_last {w : World} {base e sz n g cap : Nat} {xs zs vs : List Value} (h : w.ownsRow base e sz (.slice (some ⟨g, 0, none⟩) (n + 1) cap) (n + 1) (xs ++ zs)) (hx : xs.length = n * sz) (hz : zs.length = vs.length) (hv : vs.length = sz) :
    (setAll w g (n * sz) vs).ownsRow base e sz (.slice (some ⟨g, 0, none⟩) (n + 1) cap) (n + 1) (xs ++ vs) := by
  obtain ⟨hl, ⟨h0, _⟩ | ⟨g', cap', cur, hv', hb, hh, hc, hm, hs, ht⟩⟩ := h
  · cases h0
  · injection hv' with h1 _ h3
    injection h1 with h1
    injection h1 with h1
    subst h1
    subst h3
    have hle : (n + 1) * sz ≤ cur.size := by rw [hs]; exact Nat.mul_le_mul_right _ hc
    rw [Nat.succ_mul] at hle
    have h2 := setAll_mid vs (n * sz) w cur hh (by omega)
    refine ⟨by rw [List.length_append, hx, hv, Nat.succ_mul], .inr ⟨g, cap, _, rfl, hb, h2, hc, hm, ?_, ?_⟩⟩
    · simp
      omega
    · have ht2 : cur.toList.take (n * sz) = xs := by
        have h4 : (cur.toList.take ((n + 1) * sz)).take (n * sz) = (xs ++ zs).take (n * sz) := by rw [ht]
        rw [List.take_take, Nat.min_eq_left (by rw [Nat.succ_mul]; omega)] at h4
        rw [h4, ← hx, List.take_left]
      have hl3 : (n + 1) * sz = (xs ++ vs).length := by rw [List.length_append, hx, hv, Nat.succ_mul]
      rw [ht2, hl3]
      exact List.take_left
theorem BadS.last {gA capA : Nat} {zs vs : List Value} (h : BadS w (.slice (some ⟨gA, 0, none⟩) (n + 1) capA) (n + 1) (cells ++ zs) W) (hx : cells.length = n * 10) (hz : zs.length = 10) (hv : vs.length = 10) :
    BadS w (.slice (some ⟨gA, 0, none⟩) (n + 1) capA) (n + 1) (cells ++ vs) (setAll W gA (n * 10) vs) := by
  have hlo : w.heap.size ≤ gA := (h.own.lt gA rfl).1
  have hh : ∀ b, b ≠ gA → (setAll W gA (n * 10) vs).heap[b]? = W.heap[b]? := fun b hb => setAll_heap vs (n * 10) W b hb
  have hw : ∀ (vs : List Value) (i : Nat) (W : World), (setAll W gA i vs).os = W.os ∧ (setAll W gA i vs).tape = W.tape ∧ (setAll W gA i vs).output = W.output := by
    intro vs
    induction vs with
    | nil => intro i w; exact ⟨rfl, rfl, rfl⟩
    | cons v vs ih => intro i w; exact ih (i + 1) _
  have n1 : w.heap.size + 1 ≠ gA := fun e => h.ne (by simp [Value.ownBlock, e])
  have n2 : w.heap.size + 1 + 1 ≠ gA := fun e => (blk_own_ne h.own h.b2 (by decide)) (by simp [Value.ownBlock, e])
  have n3 : w.heap.size + 1 + 1 + 1 ≠ gA := fun e => (blk_own_ne h.own h.bD (by decide)) (by simp [Value.ownBlock, e])
  refine ⟨⟨(hw _ _ _).1.trans h.bel.os, (hw _ _ _).2.1.trans h.bel.tape, (hw _ _ _).2.2.trans h.bel.output, by rw [setAll_size]; exact h.bel.size, fun b hb => (hh b (by omega)).trans (h.bel.block b hb)⟩, (hh _ n1).trans h.b1, (hh _ n2).trans h.b2, (hh _ n3).trans h.bD, own_last h.own hx (by omega) hv, h.ne⟩
end
def sA : ByteArray := ⟨#[97]⟩
def errB : Option (ChorD × Int) → Int
  | some r => r.2
  | none => -1
theorem errB_spec {o : Option (ChorD × Int)} {e : Int} (h : errB o = e) (he : e ≠ -1) : ∃ c, o = some (c, e) := by
  rcases o with _ | ⟨c, e'⟩
  · exact absurd h.symm he
  · exact ⟨c, by rw [← h]; rfl⟩
/-- What is wrong comes without a choreography. -/
theorem chorF_err {d : DocD} {f : Nat} {id : ByteArray} {c : ChorD} {e : Int} (h : chorF d f id = some (c, e)) (he : e ≠ 0) : c = ⟨⟨#[]⟩, [], [], [], []⟩ := by
  unfold chorF at h
  simp only at h
  split at h
  · injection h with h; injection h with h _; exact h.symm
  · split at h
    · cases h
    · split at h
      · cases h
      · split at h
        · injection h with h; injection h with h _; exact h.symm
        · injection h with h; injection h with _ h; exact absurd h.symm he
theorem bad0 : errB (chorF ⟨[], [chA]⟩ 4 sA) = 6 := by decide +kernel
theorem bad1 : errB (chorF ⟨[], [chA, chB (endsL ++ [itemK 2 ⟨#[102]⟩ ⟨#[]⟩])]⟩ 4 sA) = 9 := by decide +kernel
theorem bad3 : errB (chorF ⟨[], [chA, chB endsL]⟩ 4 sA) = 0 := by decide +kernel
def bigD (k : Nat) : DocD := ⟨[], [chA, chB (endsL ++ List.replicate k gI)]⟩
theorem big_k (k : Nat) (h0 : 395 ≤ k) (h1 : k ≤ 402) : errB (chorF (bigD k) 4 sA) = (if 400 < (k : Int) + 3 then 5 else 0) ∧ (bigD k).chors.all smallCB = true ∧ countB (bigD k) 4 sA = true := by
  have h : k = 395 ∨ k = 396 ∨ k = 397 ∨ k = 398 ∨ k = 399 ∨ k = 400 ∨ k = 401 ∨ k = 402 := by omega
  rcases h with rfl | rfl | rfl | rfl | rfl | rfl | rfl | rfl <;> exact ⟨by decide +kernel, by decide +kernel, by decide +kernel⟩
end Go.Proofs.Yteoioboiniealaa
