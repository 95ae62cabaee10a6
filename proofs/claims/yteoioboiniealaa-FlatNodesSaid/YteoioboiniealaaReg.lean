/- A region that draws its order, its loads taken first while a condition holds, and a tail (a store) behind all else: the condition need not hold behind the tail. -/
import Derived.Test.YteoioboiniealaaKit
import Derived.StillTail
import Derived.OrdersHeld
namespace Go.Proofs.Yteoioboiniealaa
open Go.RowKit

section
variable {P : Program} {ops : Array Oper} {Q : Exit → Act → World → Prop} {md : Region.Mode} {S : World → Prop}

/-- Whatever order the head takes from here on; S holds behind each of its operations. -/
def wpHT (P : Program) (md : Region.Mode) (ops : Array Oper) (Q : Exit → Act → World → Prop) (S : World → Prop) (n : Nat) (L : Array Bool → Act → World → Prop) : Nat → Array Bool → Act → World → Prop
  | 0, listed, a, w => L listed a w
  | f + 1, listed, a, w =>
    Region.ready md ops listed ≠ [] ∧ ∀ i ∈ Region.ready md ops listed, i < n ∧ wpOp P ops Q i (fun a' w' => S w' ∧ wpHT P md ops Q S n L f (listed.setIfInBounds i true) a' w') a w

theorem wpAny_of_HT {n g : Nat} {L : Array Bool → Act → World → Prop} (hL : ∀ listed a w, L listed a w → wpAny P md ops Q g listed a w) :
    ∀ (f : Nat) (listed : Array Bool) (a : Act) (w : World), wpHT P md ops Q S n L f listed a w → wpAny P md ops Q (f + g) listed a w
  | 0, listed, a, w, h => by rw [Nat.zero_add]; exact hL _ _ _ h
  | f + 1, listed, a, w, h => by
    rw [show f + 1 + g = (f + g) + 1 by omega]
    exact ⟨fun h0 => absurd h0 h.1, fun i hi => wpOp_mono (fun a' w' h' => wpAny_of_HT hL f _ a' w' h'.2) (h.2 i hi).2⟩

theorem wpHT_first {n i : Nat} {oi : Oper} {v : Value} {L : Array Bool → Act → World → Prop} (hi : ops[i]? = some oi) (hsel : ∀ (j : Nat) (o : Oper) cs b, ops[j]? = some o → o.op ≠ .select cs b)
    (hQ : ∀ c a w, Q (.panic c) (a.put oi.dst v) w → Q (.panic c) a w)
    (hs : Region.sinkB md ops n = true) (hc : Region.chainB md ops n = true) (hn : n < ops.size) (hin : i < n)
    (hdone : ∀ listed a w, L listed a w → ∀ j ∈ Region.ready md ops listed, n ≤ j) :
    ∀ (f : Nat) (listed : Array Bool) (a : Act) (w : World), HeadInv md ops n listed →
      (∀ j oj, ops[j]? = some oj → j ≠ i → listed.getD j true = false → (∀ e ∈ oj.after, Region.binds md e = true → e.on ≠ i) → oi.apart ops oj = true) →
      i ∈ Region.ready md ops listed → YieldsIf P ops S oi v a → S w →
      wpHT P md ops Q S n L f (listed.setIfInBounds i true) (a.put oi.dst v) w → wpHT P md ops Q S n L (f + 1) listed a w := by
  intro f
  induction f with
  | zero =>
    intro listed a w inv _ hr hy hS H
    have hun := (mem_ready.1 hr).1
    refine ⟨fun h => (by rw [h] at hr; cases hr), fun j hj => ?_⟩
    have hjn : j < n := by
      rcases Nat.lt_or_ge j n with h | h
      · exact h
      · exact absurd hj (tail_waits hs hc hn inv _ i rfl hin hun j h)
    refine ⟨hjn, ?_⟩
    by_cases hji : j = i
    · subst hji; exact hy.wpOp hi hS ⟨hS, H⟩
    · have := hdone _ _ _ H j (ready_mono hj hji)
      omega
  | succ f ih =>
    intro listed a w inv hfree hr hy hS H
    have hun := (mem_ready.1 hr).1
    refine ⟨fun h => (by rw [h] at hr; cases hr), fun j hj => ?_⟩
    have hjn : j < n := by
      rcases Nat.lt_or_ge j n with h | h
      · exact h
      · exact absurd hj (tail_waits hs hc hn inv _ i rfl hin hun j h)
    refine ⟨hjn, ?_⟩
    by_cases hji : j = i
    · subst hji; exact hy.wpOp hi hS ⟨hS, H⟩
    · have h1 := (H.2 j (ready_mono hj hji)).2
      obtain ⟨hjun, oj, hoj, hall⟩ := mem_ready.1 hj
      have hnot : ∀ e ∈ oj.after, Region.binds md e = true → e.on ≠ i := fun e he hb heq => by
        have h1 := hall e he hb
        rw [heq, getD_both hun] at h1
        cases h1
      have h2 := wpOp_putIf hoj (hfree j oj hoj hji hjun hnot) (fun cs b => hsel i oi cs b hi) (fun cs b => hsel j oj cs b hoj) hQ hy h1
      have hfree' : ∀ k ok, ops[k]? = some ok → k ≠ i → (listed.setIfInBounds j true).getD k true = false →
          (∀ e ∈ ok.after, Region.binds md e = true → e.on ≠ i) → oi.apart ops ok = true := fun k ok hk hki hun hno => by
        refine hfree k ok hk hki ?_ hno
        by_cases hjk : j = k
        · subst hjk; exact hjun
        · rw [getD_set_ne true hjk] at hun; exact hun
      refine wpOp_mono (fun a' w' h3 => ⟨h3.2.1, ih (listed.setIfInBounds j true) a' w' (inv.set hj hjn) hfree' (ready_mono hr (Ne.symm hji)) h3.1 h3.2.1 ?_⟩) h2
      rw [Array.setIfInBounds_comm _ _ hji]
      exact h3.2.2

/-- What is asked of the head's state, as a Bool. -/
def headB (md : Region.Mode) (ops : Array Oper) (n : Nat) (listed : Array Bool) : Bool :=
  (listed.size == ops.size) && ((List.range ops.size).all fun j => !listed.getD j false || ((ops[j]?).map (·.after.all fun e => !Region.binds md e || listed.getD e.on false)).getD true) &&
  ((List.range ops.size).all fun t => decide (t < n) || !listed.getD t true)
theorem headB_spec {n : Nat} {listed : Array Bool} (h : headB md ops n listed = true) : HeadInv md ops n listed := by
  simp only [headB, Bool.and_eq_true, beq_iff_eq] at h
  obtain ⟨⟨h1, h2⟩, h3⟩ := h
  refine ⟨h1, fun j oj hj hl e he hb => ?_, fun t ht ht' => ?_⟩
  · have hlt := (Array.getElem?_eq_some_iff.1 hj).1
    have := List.all_eq_true.1 h2 j (List.mem_range.2 hlt)
    rw [hl, hj] at this
    simp only [Bool.not_true, Bool.false_or, Option.map_some, Option.getD_some, Array.all_eq_true'] at this
    have := this e he
    rw [hb] at this
    simpa using this
  · have := List.all_eq_true.1 h3 t (List.mem_range.2 ht')
    simp only [Bool.or_eq_true, decide_eq_true_eq, Bool.not_eq_true'] at this
    rcases this with h | h
    · omega
    · exact h
def tailL (P : Program) (md : Region.Mode) (ops : Array Oper) (Q : Exit → Act → World → Prop) (n : Nat) (listed : Array Bool) (a : Act) (w : World) : Prop :=
  Region.seqB md ops (ops.size - n) n listed = true ∧ wpList P ops Q (ops.toList.drop n) a w
def takeB (md : Region.Mode) (ops : Array Oper) (n : Nat) (listed : Array Bool) (i : Nat) : Bool :=
  Region.noSelect ops && Region.sinkB md ops n && Region.chainB md ops n && decide (n < ops.size) && decide (i < n) && headB md ops n listed && Region.free md ops listed i && (Region.ready md ops listed).contains i

/-- Number i is taken first. -/
theorem wpHT_take (i : Nat) {oi : Oper} {v : Value} {n f : Nat} {listed : Array Bool} {a : Act} {w : World} (hi : ops[i]? = some oi) (hB : takeB md ops n listed i = true)
    (hQ : ∀ c a w, Q (.panic c) (a.put oi.dst v) w → Q (.panic c) a w) (hy : YieldsIf P ops S oi v a) (hS : S w)
    (h : wpHT P md ops Q S n (tailL P md ops Q n) f (listed.setIfInBounds i true) (a.put oi.dst v) w) : wpHT P md ops Q S n (tailL P md ops Q n) (f + 1) listed a w := by
  simp only [takeB, Bool.and_eq_true, decide_eq_true_eq] at hB
  obtain ⟨⟨⟨⟨⟨⟨⟨h1, h2⟩, h3⟩, h4⟩, h5⟩, h6⟩, h7⟩, h8⟩ := hB
  exact wpHT_first hi (Region.noSelect_spec h1) hQ h2 h3 h4 h5 (fun listed a w hL => seqB_ready hL.1) f listed a w (headB_spec h6) (Region.free_spec hi h7) (by simpa using h8) hy hS h

/-- Number i is the one that may come up. -/
theorem wpHT_one (i : Nat) {o : Oper} {n f : Nat} {listed : Array Bool} {a : Act} {w : World} {L : Array Bool → Act → World → Prop} (ho : ops[i]? = some o) (hr : (Region.ready md ops listed == [i] && decide (i < n)) = true)
    (h : ∀ K : Act → World → Prop, Hid (∀ a' w', S w' → (S w' → wpHT P md ops Q S n L f (listed.setIfInBounds i true) a' w') → K a' w') →
      if Region.wanted o (yielded ops a.tmps) = true then o.wp P a w K Q else K (a.put o.dst undef) w) : wpHT P md ops Q S n L (f + 1) listed a w := by
  simp only [Bool.and_eq_true, beq_iff_eq, decide_eq_true_eq] at hr
  refine ⟨by rw [hr.1]; simp, fun j hj => ?_⟩
  rw [hr.1] at hj
  have : j = i := by simpa using hj
  subst this
  refine ⟨hr.2, ?_⟩
  have := h (fun a' w' => S w' ∧ wpHT P md ops Q S n L f (listed.setIfInBounds j true) a' w') (fun a' w' hS hK => ⟨hS, hK hS⟩)
  unfold wpOp
  simp only [ho]
  split at this
  · rename_i hw
    rw [if_pos hw]
    exact .inl this
  · rename_i hw
    rw [if_neg hw]
    exact this

/-- All of several that may come up. -/
def allHT (P : Program) (md : Region.Mode) (ops : Array Oper) (Q : Exit → Act → World → Prop) (S : World → Prop) (n : Nat) (L : Array Bool → Act → World → Prop) (f : Nat) (listed : Array Bool) (a : Act) (w : World) (rs : List Nat) : Prop :=
  ∀ i ∈ rs, wpOp P ops Q i (fun a' w' => S w' ∧ wpHT P md ops Q S n L f (listed.setIfInBounds i true) a' w') a w
theorem wpHT_all (rs : List Nat) {n f : Nat} {listed : Array Bool} {a : Act} {w : World} {L : Array Bool → Act → World → Prop} (hr : (Region.ready md ops listed == rs && !rs.isEmpty && rs.all fun i => decide (i < n)) = true)
    (h : allHT P md ops Q S n L f listed a w rs) : wpHT P md ops Q S n L (f + 1) listed a w := by
  simp only [Bool.and_eq_true, beq_iff_eq, Bool.not_eq_true'] at hr
  obtain ⟨⟨h1, h2⟩, h3⟩ := hr
  refine ⟨by rw [h1]; intro e; rw [e] at h2; simp at h2, fun j hj => ?_⟩
  rw [h1] at hj
  exact ⟨by simpa using List.all_eq_true.1 h3 j hj, h j hj⟩
theorem allHT.nil {n f : Nat} {listed : Array Bool} {a : Act} {w : World} {L : Array Bool → Act → World → Prop} : allHT P md ops Q S n L f listed a w [] := fun _ h => by cases h
theorem allHT.cons {i n f : Nat} {o : Oper} {rs : List Nat} {listed : Array Bool} {a : Act} {w : World} {L : Array Bool → Act → World → Prop} (ho : ops[i]? = some o)
    (h : ∀ K : Act → World → Prop, Hid (∀ a' w', S w' → (S w' → wpHT P md ops Q S n L f (listed.setIfInBounds i true) a' w') → K a' w') →
      if Region.wanted o (yielded ops a.tmps) = true then o.wp P a w K Q else K (a.put o.dst undef) w)
    (hs : allHT P md ops Q S n L f listed a w rs) : allHT P md ops Q S n L f listed a w (i :: rs) := fun j hj => by
  rcases List.mem_cons.1 hj with rfl | hj
  · have := h (fun a' w' => S w' ∧ wpHT P md ops Q S n L f (listed.setIfInBounds j true) a' w') (fun a' w' hS hK => ⟨hS, hK hS⟩)
    unfold wpOp
    simp only [ho]
    split at this
    · rename_i hw
      rw [if_pos hw]
      exact .inl this
    · rename_i hw
      rw [if_neg hw]
      exact this
  · exact hs j hj
/-- The head has come up. -/
theorem wpHT_done {n : Nat} {listed : Array Bool} {a : Act} {w : World} {l : List Oper} (hB : Region.seqB md ops (ops.size - n) n listed = true) (hl : ops.toList.drop n = l) (h : wpList P ops Q l a w) :
    wpHT P md ops Q S n (tailL P md ops Q n) 0 listed a w := ⟨hB, by rw [hl]; exact h⟩
theorem wp_region_HT (n : Nat) (S : World → Prop) {id : Nat} {a : Act} {w : World} (hm : P.follows .mixedOrders = true) (hn : n ≤ ops.size) (hS : S w.drew)
    (h : S w.drew → wpHT P .any ops Q S n (tailL P .any ops Q n) n (Array.replicate ops.size false) a w.drew) : (Code.region id ops true).wp P Q a w := by
  refine wp_region_any hm ?_
  have := wpAny_of_HT (P := P) (md := .any) (ops := ops) (Q := Q) (S := S) (n := n) (g := ops.size - n) (L := tailL P .any ops Q n) (fun listed a' w' hL => by
    have hdl : (ops.toList.drop n).length = ops.size - n := by simp
    have := wpAny_of_seq (P := P) (md := .any) (Q' := Q) (ops := ops) (ops.toList.drop n) n listed a' w' (fun j => by simp [List.getElem?_drop]) (by rw [hdl]; exact hL.1) hL.2
    rwa [hdl] at this) n _ a w.drew (h hS)
  rwa [show n + (ops.size - n) = ops.size by omega] at this

/-- The operation at a place; what lies behind a place: by recursion, so that 'rfl' lays them open. -/
def opAt : List Oper → Nat → Option Oper
  | [], _ => none
  | o :: _, 0 => some o
  | _ :: l, n + 1 => opAt l n
def tailAt : List Oper → Nat → Option (List Oper)
  | l, 0 => some l
  | [], _ + 1 => none
  | _ :: l, n + 1 => tailAt l n
theorem opAt_spec : ∀ (l : List Oper) (i : Nat), opAt l i = l.toArray[i]?
  | [], i => by simp [opAt]
  | o :: l, 0 => by simp [opAt]
  | o :: l, n + 1 => by
    have := opAt_spec l n
    simp only [List.getElem?_toArray] at this ⊢
    rw [opAt, this, List.getElem?_cons_succ]
theorem tailAt_spec : ∀ (l : List Oper) (n : Nat) (r : List Oper), tailAt l n = some r → l.drop n = r
  | l, 0, r, h => by simp only [tailAt] at h; injection h with h
  | [], n + 1, r, h => by simp only [tailAt] at h; cases h
  | o :: l, n + 1, r, h => by
    simp only [tailAt] at h
    exact tailAt_spec l n r h
theorem ht_take (i : Nat) {l : List Oper} {oi : Oper} {v : Value} {n f : Nat} {listed : Array Bool} {a : Act} {w : World} (hi : opAt l i = some oi) (hB : takeB md l.toArray n listed i = true)
    (hQ : ∀ c a w, Q (.panic c) (a.put oi.dst v) w → Q (.panic c) a w) (hy : YieldsIf P l.toArray S oi v a) (hS : S w)
    (h : wpHT P md l.toArray Q S n (tailL P md l.toArray Q n) f (listed.setIfInBounds i true) (a.put oi.dst v) w) : wpHT P md l.toArray Q S n (tailL P md l.toArray Q n) (f + 1) listed a w :=
  wpHT_take i (by rw [← opAt_spec]; exact hi) hB hQ hy hS h
theorem ht_one (i : Nat) {l : List Oper} {o : Oper} {n f : Nat} {listed : Array Bool} {a : Act} {w : World} {L : Array Bool → Act → World → Prop} (ho : opAt l i = some o) (hr : (Region.ready md l.toArray listed == [i] && decide (i < n)) = true)
    (h : ∀ K : Act → World → Prop, Hid (∀ a' w', S w' → (S w' → wpHT P md l.toArray Q S n L f (listed.setIfInBounds i true) a' w') → K a' w') →
      if Region.wanted o (yielded l.toArray a.tmps) = true then o.wp P a w K Q else K (a.put o.dst undef) w) : wpHT P md l.toArray Q S n L (f + 1) listed a w :=
  wpHT_one i (by rw [← opAt_spec]; exact ho) hr h
theorem ht_cons {i n f : Nat} {l : List Oper} {o : Oper} {rs : List Nat} {listed : Array Bool} {a : Act} {w : World} {L : Array Bool → Act → World → Prop} (ho : opAt l i = some o)
    (h : ∀ K : Act → World → Prop, Hid (∀ a' w', S w' → (S w' → wpHT P md l.toArray Q S n L f (listed.setIfInBounds i true) a' w') → K a' w') →
      if Region.wanted o (yielded l.toArray a.tmps) = true then o.wp P a w K Q else K (a.put o.dst undef) w)
    (hs : allHT P md l.toArray Q S n L f listed a w rs) : allHT P md l.toArray Q S n L f listed a w (i :: rs) :=
  allHT.cons (by rw [← opAt_spec]; exact ho) h hs
theorem ht_done {n : Nat} {listed : Array Bool} {a : Act} {w : World} {l r : List Oper} (hB : Region.seqB md l.toArray (l.toArray.size - n) n listed = true) (hl : tailAt l n = some r) (h : wpList P l.toArray Q r a w) :
    wpHT P md l.toArray Q S n (tailL P md l.toArray Q n) 0 listed a w :=
  wpHT_done hB (by simpa using tailAt_spec l n r hl) h
end
end Go.Proofs.Yteoioboiniealaa
