/- The contracts of rules.In, Out, count, What rules.Reached computes, in plain words: which items can be come to from the starts, joined. -/
import Derived.Test.YtljmghaplnkohaaItem
import Derived.Test.YtljmghaplnkohaaFind0
namespace Go.Proofs.Ytljmghaplnkohaa
open Go.RowKit

/-- How many of the first ones have a property. -/
def cntN {α : Type} (p : α → Bool) (l : List α) (k : Nat) : Nat := ((l.take k).filter p).length
theorem cntN_step {α : Type} (p : α → Bool) (l : List α) (k : Nat) (h : k < l.length) : cntN p l (k + 1) = cntN p l k + if p l[k] = true then 1 else 0 := by
  unfold cntN
  rw [List.take_succ_eq_append_getElem h, List.filter_append, List.length_append, List.filter_cons]
  split <;> simp
theorem cntN_le {α : Type} (p : α → Bool) (l : List α) (k : Nat) : cntN p l k ≤ k := Nat.le_trans (List.length_filter_le _ _) (List.length_take_le _ _)
theorem cntN_all {α : Type} (p : α → Bool) (l : List α) (k : Nat) (h : l.length ≤ k) : cntN p l k = (l.filter p).length := by unfold cntN; rw [List.take_of_length_le h]


set_option maxHeartbeats 1000000 in
theorem in_any {w : World} {v : Value} {l : List SeqD} (s : ByteArray) (hv : Rd w (seqsD l) v) :
    Calls Try.prog 11 #[v, .string s] w fun e w' => e = .returned (.int .i64 (cntN (fun x : SeqD => eqS x.dst s) l l.length)) ∧ Below w.heap.size w w' := by
  obtain ⟨A, c, rfl, hlc, hcm, hat⟩ := rd_at seqC_len hv
  have hmx : l.length ≤ maxLen := by omega
  unfold maxLen at hmx
  have HAT := Lib.hid hat
  clear hat hv hcm
  obtain ⟨pf, hpf⟩ : ∃ pf : SeqD → Bool, pf = fun x => eqS x.dst s := ⟨_, rfl⟩
  rw [← hpf]
  have HP := Lib.hid hpf
  clear hpf
  go_enter Try.func11, Try.ntmps11
  go_wp2_with fail
  go_loopw [5, 10] (fun u v wr => ∃ k : Nat, k ≤ l.length ∧ u = .int .i64 (cntN pf l k) ∧ v = .int .i64 k ∧ Below w.heap.size w wr) (fun _ v _ => l.length - (intOf v).toNat)
  case atStart => exact ⟨0, Nat.zero_le _, rfl, rfl, Below.refl _ _⟩
  case round =>
    obtain ⟨k, hk, rfl, rfl, hB⟩ := hrel
    have HB := Lib.hid hB
    have hsz := hB.size
    clear hB
    have hle := cntN_le pf l k
    by_cases hlt : k < l.length
    · obtain ⟨b, vs, rfl, hbl, _, hvs, hcell⟩ := HAT.out k hlt
      have hst := cntN_step pf l k hlt
      have hpk : pf l[k] = eqS l[k].dst s := by rw [HP.out]
      generalize l[k] = x at *
      obtain rfl := rd_seqC hvs
      have x0 : wr.cell? ⟨b, k * 3, none⟩ = some (.string x.id) := (HB.out.cell (p := ⟨b, k * 3, none⟩) hbl).trans (hcell 0 (by omega))
      have x1 : wr.cell? ⟨b, k * 3 + 1, none⟩ = some (.string x.src) := (HB.out.cell (p := ⟨b, k * 3 + 1, none⟩) hbl).trans (hcell 1 (by omega))
      have x2 : wr.cell? ⟨b, k * 3 + 2, none⟩ = some (.string x.dst) := (HB.out.cell (p := ⟨b, k * 3 + 2, none⟩) hbl).trans (hcell 2 (by omega))
      unfold eqS at hpk
      cases ht : pf x
      · rw [ht] at hst hpk
        rw [if_neg Bool.false_ne_true] at hst
        have hpk2 := hpk.symm
        have Hst := Lib.hid hst
        clear hcell hvs hst hpk ht
        go_wp2_with fail
        go_roundw
        case rel => exact ⟨k + 1, by omega, by rw [Hst.out, Nat.add_zero], by go_num, HB.out.alloc hsz _⟩
        case measure => simp [intOf]; omega
      · rw [ht] at hst hpk
        rw [if_pos rfl] at hst
        have hpk2 := hpk.symm
        have Hst := Lib.hid hst
        clear hcell hvs hst hpk ht
        go_wp2_with fail
        go_roundw
        case rel => exact ⟨k + 1, by omega, by rw [Hst.out]; go_num, by go_num, HB.out.alloc hsz _⟩
        case measure => simp [intOf]; omega
    · have hfin : k = l.length := by omega
      subst hfin
      go_wp2_with fail
      go_ret
      exact ⟨rfl, HB.out⟩

set_option maxHeartbeats 1000000 in
theorem out_any {w : World} {v : Value} {l : List SeqD} (s : ByteArray) (hv : Rd w (seqsD l) v) :
    Calls Try.prog 12 #[v, .string s] w fun e w' => e = .returned (.int .i64 (cntN (fun x : SeqD => eqS x.src s) l l.length)) ∧ Below w.heap.size w w' := by
  obtain ⟨A, c, rfl, hlc, hcm, hat⟩ := rd_at seqC_len hv
  have hmx : l.length ≤ maxLen := by omega
  unfold maxLen at hmx
  have HAT := Lib.hid hat
  clear hat hv hcm
  obtain ⟨pf, hpf⟩ : ∃ pf : SeqD → Bool, pf = fun x => eqS x.src s := ⟨_, rfl⟩
  rw [← hpf]
  have HP := Lib.hid hpf
  clear hpf
  go_enter Try.func12, Try.ntmps12
  go_wp2_with fail
  go_loopw [5, 10] (fun u v wr => ∃ k : Nat, k ≤ l.length ∧ u = .int .i64 (cntN pf l k) ∧ v = .int .i64 k ∧ Below w.heap.size w wr) (fun _ v _ => l.length - (intOf v).toNat)
  case atStart => exact ⟨0, Nat.zero_le _, rfl, rfl, Below.refl _ _⟩
  case round =>
    obtain ⟨k, hk, rfl, rfl, hB⟩ := hrel
    have HB := Lib.hid hB
    have hsz := hB.size
    clear hB
    have hle := cntN_le pf l k
    by_cases hlt : k < l.length
    · obtain ⟨b, vs, rfl, hbl, _, hvs, hcell⟩ := HAT.out k hlt
      have hst := cntN_step pf l k hlt
      have hpk : pf l[k] = eqS l[k].src s := by rw [HP.out]
      generalize l[k] = x at *
      obtain rfl := rd_seqC hvs
      have x0 : wr.cell? ⟨b, k * 3, none⟩ = some (.string x.id) := (HB.out.cell (p := ⟨b, k * 3, none⟩) hbl).trans (hcell 0 (by omega))
      have x1 : wr.cell? ⟨b, k * 3 + 1, none⟩ = some (.string x.src) := (HB.out.cell (p := ⟨b, k * 3 + 1, none⟩) hbl).trans (hcell 1 (by omega))
      have x2 : wr.cell? ⟨b, k * 3 + 2, none⟩ = some (.string x.dst) := (HB.out.cell (p := ⟨b, k * 3 + 2, none⟩) hbl).trans (hcell 2 (by omega))
      unfold eqS at hpk
      cases ht : pf x
      · rw [ht] at hst hpk
        rw [if_neg Bool.false_ne_true] at hst
        have hpk2 := hpk.symm
        have Hst := Lib.hid hst
        clear hcell hvs hst hpk ht
        go_wp2_with fail
        go_roundw
        case rel => exact ⟨k + 1, by omega, by rw [Hst.out, Nat.add_zero], by go_num, HB.out.alloc hsz _⟩
        case measure => simp [intOf]; omega
      · rw [ht] at hst hpk
        rw [if_pos rfl] at hst
        have hpk2 := hpk.symm
        have Hst := Lib.hid hst
        clear hcell hvs hst hpk ht
        go_wp2_with fail
        go_roundw
        case rel => exact ⟨k + 1, by omega, by rw [Hst.out]; go_num, by go_num, HB.out.alloc hsz _⟩
        case measure => simp [intOf]; omega
    · have hfin : k = l.length := by omega
      subst hfin
      go_wp2_with fail
      go_ret
      exact ⟨rfl, HB.out⟩

end Go.Proofs.Ytljmghaplnkohaa
namespace Go.Proofs.Ytljmghaplnkohaa
open Go.RowKit

/-- The place of what goes by an id. -/
def itemK (l : List ItemD) (s : ByteArray) : Int := findFrom (fun x : ItemD => eqS x.id s) l 0
def idAt (l : List ItemD) (i : Nat) : ByteArray := (l[i]?.map (·.id)).getD ⟨#[]⟩
def isSt (x : ItemD) : Bool := x.kind == 1
/-- An item can be come to. -/
inductive Reach (l : List ItemD) (s : List SeqD) : Nat → Prop
  | start (i : Nat) (h : i < l.length) (hk : isSt l[i] = true) : Reach l s i
  | step (i k : Nat) (q : SeqD) (hr : Reach l s i) (hq : q ∈ s) (he : eqS q.src (idAt l i) = true) (hk : itemK l q.dst = (k : Int)) : Reach l s k

theorem findFrom_bounds {α : Type} (p : α → Bool) : ∀ (l : List α) (k : Nat), findFrom p l k = -1 ∨ ((k : Int) ≤ findFrom p l k ∧ findFrom p l k < ((k + l.length : Nat) : Int))
  | [], k => .inl rfl
  | x :: l, k => by
    rw [findFrom]
    split
    · right
      simp only [List.length_cons]
      omega
    · rcases findFrom_bounds p l (k + 1) with h | h
      · exact .inl h
      · right
        simp only [List.length_cons]
        omega
theorem itemK_bounds (l : List ItemD) (s : ByteArray) : itemK l s = -1 ∨ (0 ≤ itemK l s ∧ itemK l s < (l.length : Int)) := by
  rcases findFrom_bounds (fun x : ItemD => eqS x.id s) l 0 with h | h
  · exact .inl h
  · right
    unfold itemK
    simpa using h

/-- How many are not seen. -/
def cf (sn : List Bool) : Nat := (sn.filter (fun b => !b)).length
theorem cf_set : ∀ (sn : List Bool) (k : Nat), sn[k]? = some false → cf (sn.set k true) + 1 = cf sn
  | [], k, h => by simp at h
  | b :: l, 0, h => by
    simp at h
    subst h
    simp [cf]
  | b :: l, k + 1, h => by
    have := cf_set l k (by simpa using h)
    unfold cf at *
    rw [List.set_cons_succ, List.filter_cons, List.filter_cons]
    cases b
    · simp
      omega
    · simpa using this
theorem cf_le (sn : List Bool) : cf sn ≤ sn.length := List.length_filter_le _ _

structure RBase (l : List ItemD) (s : List SeqD) (sn : List Bool) (q : List Int) : Prop where
  len : sn.length = l.length
  inq : ∀ x ∈ q, ∃ i : Nat, x = (i : Int) ∧ i < l.length ∧ sn[i]? = some true
  ok : ∀ i, sn[i]? = some true → Reach l s i
  st : ∀ i (h : i < l.length), isSt l[i] = true → sn[i]? = some true
  bnd : 2 * cf sn + q.length ≤ 2 * l.length
/-- What is seen of what follows an item. -/
def Closed (l : List ItemD) (s : List SeqD) (sn : List Bool) (i : Nat) : Prop :=
  ∀ q ∈ s, eqS q.src (idAt l i) = true → ∀ k : Nat, itemK l q.dst = (k : Int) → sn[k]? = some true
/-- At the head of the outer loop. -/
structure RInv (l : List ItemD) (s : List SeqD) (sn : List Bool) (q : List Int) : Prop where
  base : RBase l s sn q
  cl : ∀ i : Nat, sn[i]? = some true → (i : Int) ∉ q → Closed l s sn i
/-- At the head of the inner loop. -/
structure RIn (l : List ItemD) (s : List SeqD) (i j M : Nat) (sn : List Bool) (q : List Int) : Prop where
  base : RBase l s sn q
  hi : i < l.length
  ri : sn[i]? = some true
  cl : ∀ i' : Nat, i' ≠ i → sn[i']? = some true → (i' : Int) ∉ q → Closed l s sn i'
  cli : Closed l (s.take j) sn i
  ms : 2 * cf sn + q.length ≤ M
theorem Closed.mono {l : List ItemD} {s : List SeqD} {sn sn' : List Bool} {i : Nat} (h : Closed l s sn i) (hm : ∀ k : Nat, sn[k]? = some true → sn'[k]? = some true) : Closed l s sn' i :=
  fun q hq he k hk => hm k (h q hq he k hk)

section
variable {l : List ItemD} {s : List SeqD} {sn : List Bool}
theorem RInv.pop {x : Int} {r : List Int} (h : RInv l s sn (x :: r)) : ∃ i : Nat, x = (i : Int) ∧ RIn l s i 0 (2 * cf sn + r.length) sn r := by
  obtain ⟨i, rfl, hi, hs⟩ := h.base.inq x (by simp)
  refine ⟨i, rfl, ⟨⟨h.base.len, fun y hy => h.base.inq y (by simp [hy]), h.base.ok, h.base.st, by have := h.base.bnd; simp at this; omega⟩, hi, hs, fun i' hne hs' hn => h.cl i' hs' ?_, fun q hq => by simp at hq, Nat.le_refl _⟩⟩
  simp only [List.mem_cons, not_or]
  exact ⟨by omega, hn⟩
variable {i j M : Nat} {q : List Int}
theorem RIn.closes (h : RIn l s i j M sn q) (hj : j < s.length) (hc : eqS (s[j]).src (idAt l i) = true → ∀ k : Nat, itemK l (s[j]).dst = (k : Int) → sn[k]? = some true) : RIn l s i (j + 1) M sn q :=
  ⟨h.base, h.hi, h.ri, h.cl, fun q' hq he k hk => by
    rw [List.take_succ_eq_append_getElem hj, List.mem_append] at hq
    rcases hq with hq | hq
    · exact h.cli q' hq he k hk
    · simp at hq
      subst hq
      exact hc he k hk, h.ms⟩
theorem RIn.skipSrc (h : RIn l s i j M sn q) (hj : j < s.length) (hc : eqS (s[j]).src (idAt l i) = false) : RIn l s i (j + 1) M sn q := h.closes hj fun he => by rw [hc] at he; cases he
theorem RIn.skipNo (h : RIn l s i j M sn q) (hj : j < s.length) (hc : itemK l (s[j]).dst < 0) : RIn l s i (j + 1) M sn q := h.closes hj fun _ k hk => by omega
theorem RIn.skipSeen (h : RIn l s i j M sn q) (hj : j < s.length) {k : Nat} (hk : itemK l (s[j]).dst = (k : Int)) (hc : sn[k]? = some true) : RIn l s i (j + 1) M sn q :=
  h.closes hj fun _ k' hk' => by
    have : k' = k := by omega
    rw [this]
    exact hc
theorem RIn.push (h : RIn l s i j M sn q) (hj : j < s.length) (he : eqS (s[j]).src (idAt l i) = true) {k : Nat} (hk : itemK l (s[j]).dst = (k : Int)) (hc : sn[k]? = some false) : RIn l s i (j + 1) M (sn.set k true) (q ++ [(k : Int)]) := by
  have hcf := cf_set sn k hc
  have hkl : k < sn.length := (List.getElem?_eq_some_iff.1 hc).1
  have hset : ∀ i', (sn.set k true)[i']? = some true ↔ (i' = k ∨ sn[i']? = some true) := by
    intro i'
    rw [List.getElem?_set]
    by_cases hik : k = i'
    · subst hik
      simp [hkl]
    · rw [if_neg hik]
      constructor
      · exact .inr
      · rintro (rfl | h)
        · exact absurd rfl hik
        · exact h
  have hm : ∀ i' : Nat, sn[i']? = some true → (sn.set k true)[i']? = some true := fun i' h => (hset i').2 (.inr h)
  refine ⟨⟨by simpa using h.base.len, fun x hx => ?_, fun i' hi' => ?_, fun i' hi' hs => hm i' (h.base.st i' hi' hs), by have := h.base.bnd; simp; omega⟩, h.hi, hm i h.ri, fun i' hne hs' hn => ?_, ?_, by have := h.ms; simp; omega⟩
  · rw [List.mem_append] at hx
    rcases hx with hx | hx
    · obtain ⟨i', e, h1, h2⟩ := h.base.inq x hx
      exact ⟨i', e, h1, hm i' h2⟩
    · simp at hx
      exact ⟨k, hx, by rw [← h.base.len]; exact hkl, (hset k).2 (.inl rfl)⟩
  · rcases (hset i').1 hi' with rfl | h'
    · exact .step i i' s[j] (h.base.ok i h.ri) (List.getElem_mem hj) he hk
    · exact h.base.ok i' h'
  · rw [List.mem_append, not_or] at hn
    rcases (hset i').1 hs' with rfl | h'
    · exact absurd (by simp) hn.2
    · exact (h.cl i' hne h' hn.1).mono hm
  · intro q' hq he' k' hk'
    rw [List.take_succ_eq_append_getElem hj, List.mem_append] at hq
    rcases hq with hq | hq
    · exact hm k' (h.cli q' hq he' k' hk')
    · simp at hq
      subst hq
      have : k' = k := by omega
      rw [this]
      exact (hset k).2 (.inl rfl)
theorem RIn.done (h : RIn l s i j M sn q) (hj : s.length ≤ j) : RInv l s sn q ∧ 2 * cf sn + q.length ≤ M := by
  refine ⟨⟨h.base, fun i' hs hn => ?_⟩, h.ms⟩
  by_cases hne : i' = i
  · subst hne
    have := h.cli
    rwa [List.take_of_length_le hj] at this
  · exact h.cl i' hne hs hn
theorem RInv.fin (h : RInv l s sn []) (i : Nat) : sn[i]? = some true ↔ Reach l s i := by
  refine ⟨h.base.ok i, fun hr => ?_⟩
  induction hr with
  | start i hi hk => exact h.base.st i hi hk
  | step i k q _ hq he hk ih => exact h.cl i ih (by simp) q hq he k hk
end
/-- What the first loop leaves. -/
def seen0 (l : List ItemD) (k : Nat) : List Bool := (l.take k).map isSt ++ List.replicate (l.length - k) false
theorem seen0_len (l : List ItemD) (k : Nat) (hk : k ≤ l.length) : (seen0 l k).length = l.length := by
  simp [seen0]
  omega
theorem seen0_at (l : List ItemD) (k i : Nat) (hk : k ≤ l.length) (hi : i < l.length) : (seen0 l k)[i]? = some (decide (i < k) && isSt l[i]) := by
  unfold seen0
  by_cases h : i < k
  · rw [List.getElem?_append_left (by simp; omega)]
    simp [h, hi]
  · rw [List.getElem?_append_right (by simp; omega), List.getElem?_replicate, if_pos (by simp; omega)]
    simp [h]
theorem seen0_step (l : List ItemD) (k : Nat) (hk : k < l.length) : seen0 l (k + 1) = if isSt l[k] = true then (seen0 l k).set k true else seen0 l k := by
  apply List.ext_getElem?
  intro i
  by_cases hi : i < l.length
  · rw [seen0_at l (k + 1) i (by omega) hi]
    split
    · rename_i hs
      rw [List.getElem?_set]
      by_cases hik : k = i
      · subst hik
        rw [if_pos rfl, if_pos (by rw [seen0_len l k (by omega)]; exact hk)]
        simp [hs]
      · rw [if_neg hik, seen0_at l k i (by omega) hi]
        congr 2
        rw [decide_eq_decide]
        omega
    · rename_i hs
      rw [seen0_at l k i (by omega) hi]
      by_cases hik : i = k
      · subst hik
        simp [hs]
      · congr 2
        rw [decide_eq_decide]
        omega
  · rw [List.getElem?_eq_none (by rw [seen0_len l (k + 1) (by omega)]; omega)]
    split
    · rw [List.getElem?_eq_none (by rw [List.length_set, seen0_len l k (by omega)]; omega)]
    · rw [List.getElem?_eq_none (by rw [seen0_len l k (by omega)]; omega)]
/-- The places, from a number on, of what has a property. -/
def placesFrom {α : Type} (p : α → Bool) : List α → Nat → List Int
  | [], _ => []
  | x :: l, k => if p x = true then (k : Int) :: placesFrom p l (k + 1) else placesFrom p l (k + 1)
theorem placesFrom_snoc {α : Type} (p : α → Bool) (x : α) : ∀ (l : List α) (k : Nat), placesFrom p (l ++ [x]) k = placesFrom p l k ++ (if p x = true then [((k + l.length : Nat) : Int)] else [])
  | [], k => by simp [placesFrom]
  | y :: l, k => by
    simp only [List.cons_append, placesFrom, placesFrom_snoc p x l (k + 1), List.length_cons]
    rw [show k + 1 + l.length = k + (l.length + 1) by omega]
    split <;> simp
theorem placesFrom_len {α : Type} (p : α → Bool) : ∀ (l : List α) (k : Nat), (placesFrom p l k).length ≤ l.length
  | [], _ => Nat.le_refl _
  | y :: l, k => by
    simp only [placesFrom]
    have := placesFrom_len p l (k + 1)
    split <;> simp <;> omega
theorem places_step {α : Type} (p : α → Bool) (xs : List α) (k : Nat) (h : k < xs.length) : placesFrom p (xs.take (k + 1)) 0 = placesFrom p (xs.take k) 0 ++ (if p (xs[k]'h) = true then [(k : Int)] else []) := by
  rw [List.take_succ_eq_append_getElem h, placesFrom_snoc]
  congr 1
  split
  · simp; omega
  · rfl
theorem places_le {α : Type} (p : α → Bool) (xs : List α) (k : Nat) : (placesFrom p (xs.take k) 0).length ≤ k := Nat.le_trans (placesFrom_len p _ 0) (List.length_take_le _ _)
theorem mem_places {α : Type} (p : α → Bool) : ∀ (l : List α) (k : Nat) (x : Int), x ∈ placesFrom p l k ↔ ∃ i : Nat, ∃ h : i < l.length, x = ((k + i : Nat) : Int) ∧ p l[i] = true
  | [], k, x => by simp [placesFrom]
  | y :: l, k, x => by
    have ih := mem_places p l (k + 1) x
    have key : (∃ i : Nat, ∃ h : i < (y :: l).length, x = ((k + i : Nat) : Int) ∧ p (y :: l)[i] = true) ↔ ((x = (k : Int) ∧ p y = true) ∨ ∃ i : Nat, ∃ h : i < l.length, x = ((k + 1 + i : Nat) : Int) ∧ p l[i] = true) := by
      constructor
      · rintro ⟨i, h, e, hp⟩
        match i, h, e, hp with
        | 0, _, e, hp => exact .inl ⟨by simpa using e, hp⟩
        | i + 1, h, e, hp => exact .inr ⟨i, by simpa using h, by rw [e]; congr 1; omega, hp⟩
      · rintro (⟨e, hp⟩ | ⟨i, h, e, hp⟩)
        · exact ⟨0, by simp, by simpa using e, hp⟩
        · exact ⟨i + 1, by simpa using h, by rw [e]; congr 1; omega, hp⟩
    rw [key, ← ih, placesFrom]
    split
    · rename_i hp
      simp [hp]
    · rename_i hp
      simp [hp]
theorem cf_append (a b : List Bool) : cf (a ++ b) = cf a + cf b := by simp [cf]
theorem cf_places (l : List ItemD) : cf (l.map isSt) + (placesFrom isSt l 0).length = l.length := by
  have : ∀ (l : List ItemD) (k : Nat), cf (l.map isSt) + (placesFrom isSt l k).length = l.length := by
    intro l
    induction l with
    | nil => intro k; rfl
    | cons x l ih =>
      intro k
      have := ih (k + 1)
      unfold cf at *
      rw [List.map_cons, List.filter_cons, placesFrom]
      cases isSt x <;> simp <;> omega
  exact this l 0
theorem RInv.start (l : List ItemD) (s : List SeqD) : RInv l s (seen0 l l.length) (placesFrom isSt (l.take l.length) 0) := by
  have hat := fun i hi => seen0_at l l.length i (Nat.le_refl _) hi
  have hlen := seen0_len l l.length (Nat.le_refl _)
  have hlt : ∀ i, (seen0 l l.length)[i]? = some true → i < l.length := fun i h => by
    have := (List.getElem?_eq_some_iff.1 h).1
    omega
  have hst : ∀ i (hi : i < l.length), (seen0 l l.length)[i]? = some true → isSt l[i] = true := fun i hi h => by
    rw [hat i hi] at h
    simpa [hi] using h
  rw [List.take_length]
  refine ⟨⟨hlen, fun x hx => ?_, fun i h => .start i (hlt i h) (hst i _ h), fun i hi hs => by rw [hat i hi]; simp [hi, hs], ?_⟩, fun i h hn => ?_⟩
  · obtain ⟨i, hi, e, hp⟩ := (mem_places isSt l 0 x).1 hx
    exact ⟨i, by simpa using e, hi, by rw [hat i hi]; simp [hi, hp]⟩
  · have := cf_places l
    have he : seen0 l l.length = l.map isSt := by simp [seen0]
    rw [he]
    omega
  · exact absurd ((mem_places isSt l 0 i).2 ⟨i, hlt i h, by simp, hst i _ h⟩) hn
end Go.Proofs.Ytljmghaplnkohaa
