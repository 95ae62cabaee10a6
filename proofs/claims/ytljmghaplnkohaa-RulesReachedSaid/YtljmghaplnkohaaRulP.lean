/- The law RulesReached in plain words: sixteen rounds come to what can be come to. -/
import Derived.Test.YtljmghaplnkohaaRulR
import Derived.Test.YtljmghaplnkohaaStr
namespace Go.Proofs.Ytljmghaplnkohaa
open Go.RowKit

/-- A letter as a text. -/
def lt (i : Nat) : ByteArray := strOfNums [97 + (i : Int)]
theorem lt_eq : ∀ a b : Nat, a < 16 → b < 16 → eqS (lt a) (lt b) = decide (a = b) := by
  have h : ∀ a b : Fin 16, eqS (lt a.val) (lt b.val) = decide (a.val = b.val) := by decide +kernel
  exact fun a b ha hb => h ⟨a, ha⟩ ⟨b, hb⟩
def rItem (k : Int) (i : Nat) : ItemD := ⟨k, lt i, ⟨#[]⟩, [], [], false, ⟨#[]⟩, [], [], []⟩
def rSeq (a b : Nat) : SeqD := ⟨⟨#[]⟩, lt a, lt b⟩
/-- The kind of an item by a number. -/
def rKind (x : Int) : Int := bits BinOp.and IntKind.i64 x 7 + 1
def rNum (x : Int) : Nat := (bits BinOp.and IntKind.i64 x 15).toNat
theorem rNum_lt (x : Int) : rNum x < 16 := by have := am15 x; unfold rNum; omega
theorem rNum_eq (x : Int) : bits BinOp.and IntKind.i64 x 15 = (rNum x : Int) := by have := am15 x; unfold rNum; omega
/-- So many items, and what follows what. -/
def rItems (ks : List Int) (n : Nat) : List ItemD := (List.range n).map fun i => rItem (rKind (ks.getD i 0)) i
def rEdge (es : List (Int × Int)) (i : Nat) : Nat × Nat := (rNum (es.getD i (0, 0)).1, rNum (es.getD i (0, 0)).2)
def rEdges (es : List (Int × Int)) (m : Nat) : List (Nat × Nat) := (List.range m).map (rEdge es)
def rSeqs (es : List (Int × Int)) (m : Nat) : List SeqD := (rEdges es m).map fun e => rSeq e.1 e.2
theorem rItems_len (ks : List Int) (n : Nat) : (rItems ks n).length = n := by simp [rItems]
theorem rSeqs_len (es : List (Int × Int)) (m : Nat) : (rSeqs es m).length = m := by simp [rSeqs, rEdges]
theorem rEdges_len (es : List (Int × Int)) (m : Nat) : (rEdges es m).length = m := by simp [rEdges]
theorem rItems_at (ks : List Int) (n i : Nat) (h : i < (rItems ks n).length) : (rItems ks n)[i] = rItem (rKind (ks.getD i 0)) i := by simp [rItems]
theorem rEdges_at (es : List (Int × Int)) (m i : Nat) (h : i < (rEdges es m).length) : (rEdges es m)[i] = rEdge es i := by simp [rEdges]
theorem rSeqs_at (es : List (Int × Int)) (m i : Nat) (h : i < (rSeqs es m).length) : (rSeqs es m)[i] = rSeq (rEdge es i).1 (rEdge es i).2 := by simp [rSeqs, rEdges]
theorem rItems_succ (ks : List Int) (n : Nat) : rItems ks (n + 1) = rItems ks n ++ [rItem (rKind (ks.getD n 0)) n] := by simp [rItems, List.range_succ]
theorem rSeqs_succ (es : List (Int × Int)) (m : Nat) : rSeqs es (m + 1) = rSeqs es m ++ [rSeq (rEdge es m).1 (rEdge es m).2] := by simp [rSeqs, rEdges, List.range_succ]
theorem rEdges_lt {es : List (Int × Int)} {m : Nat} : ∀ e ∈ rEdges es m, e.1 < 16 ∧ e.2 < 16 := by
  intro e he
  simp [rEdges] at he
  obtain ⟨i, _, rfl⟩ := he
  exact ⟨rNum_lt _, rNum_lt _⟩

theorem findFrom_one {α : Type} (p : α → Bool) (b : Nat) : ∀ (l : List α) (k : Nat), (∀ i (h : i < l.length), p l[i] = decide (k + i = b)) → findFrom p l k = if k ≤ b ∧ b < k + l.length then (b : Int) else -1
  | [], k, _ => by rw [findFrom, if_neg (by simp only [List.length_nil]; omega)]
  | x :: l, k, h => by
    have h0 := h 0 (by simp)
    simp at h0
    rw [findFrom, h0]
    by_cases hk : k = b
    · subst hk
      rw [if_pos (by simp), if_pos ⟨Nat.le_refl _, by simp⟩]
    · rw [if_neg (by simpa using hk), findFrom_one p b l (k + 1) (fun i hi => by
        have := h (i + 1) (by simpa using hi)
        simp only [List.getElem_cons_succ] at this
        rw [this, show k + (i + 1) = k + 1 + i by omega])]
      simp only [List.length_cons]
      by_cases hc : k ≤ b ∧ b < k + (l.length + 1)
      · rw [if_pos hc, if_pos (by omega)]
      · rw [if_neg hc, if_neg (by omega)]
theorem rItemK (ks : List Int) (n b : Nat) (hn : n ≤ 12) (hb : b < 16) : itemK (rItems ks n) (lt b) = if b < n then (b : Int) else -1 := by
  unfold itemK
  rw [findFrom_one _ b _ 0 (fun i hi => by
    have hin : i < n := by simpa [rItems_len] using hi
    show eqS ((rItems ks n)[i]).id (lt b) = _
    rw [rItems_at]
    show eqS (lt i) (lt b) = _
    rw [lt_eq i b (by omega) hb]
    simp)]
  simp [rItems_len]
theorem rIdAt (ks : List Int) (n i : Nat) (h : i < n) : idAt (rItems ks n) i = lt i := by
  unfold idAt
  rw [List.getElem?_eq_getElem (by rw [rItems_len]; exact h), rItems_at]
  rfl

/-- One edge: what comes behind what is seen is seen. -/
def rStep (n : Nat) (sn : List Bool) (e : Nat × Nat) : List Bool := if e.1 < n ∧ e.2 < n ∧ sn[e.1]? = some true then sn.set e.2 true else sn
def rRound (n : Nat) (es : List (Nat × Nat)) (sn : List Bool) : List Bool := es.foldl (rStep n) sn
def rRounds (n : Nat) (es : List (Nat × Nat)) (sn : List Bool) : Nat → List Bool
  | 0 => sn
  | r + 1 => rRound n es (rRounds n es sn r)
theorem rStep_len (n : Nat) (sn : List Bool) (e : Nat × Nat) : (rStep n sn e).length = sn.length := by unfold rStep; split <;> simp
theorem rFold_len (n : Nat) : ∀ (es : List (Nat × Nat)) (sn : List Bool), (es.foldl (rStep n) sn).length = sn.length
  | [], _ => rfl
  | e :: es, sn => by rw [List.foldl_cons, rFold_len n es, rStep_len]
theorem rRounds_len (n : Nat) (es : List (Nat × Nat)) (sn : List Bool) : ∀ r, (rRounds n es sn r).length = sn.length
  | 0 => rfl
  | r + 1 => (rFold_len n es _).trans (rRounds_len n es sn r)
theorem set_same {sn : List Bool} {k : Nat} (h : sn[k]? = some true) : sn.set k true = sn := by
  apply List.ext_getElem?
  intro i
  rw [List.getElem?_set]
  by_cases hik : k = i
  · subst hik
    rw [if_pos rfl, if_pos (List.getElem?_eq_some_iff.1 h).1, h]
  · rw [if_neg hik]
theorem rStep_cf (n : Nat) (sn : List Bool) (e : Nat × Nat) (hn : n ≤ sn.length) : rStep n sn e = sn ∨ cf (rStep n sn e) + 1 = cf sn := by
  unfold rStep
  split
  · rename_i h
    have hl : e.2 < sn.length := by omega
    cases hb : sn[e.2] with
    | true => exact .inl (set_same (by rw [List.getElem?_eq_getElem hl, hb]))
    | false => exact .inr (cf_set sn e.2 (by rw [List.getElem?_eq_getElem hl, hb]))
  · exact .inl rfl
theorem rFold_cf (n : Nat) : ∀ (es : List (Nat × Nat)) (sn : List Bool), n ≤ sn.length → cf (es.foldl (rStep n) sn) ≤ cf sn ∧ (cf (es.foldl (rStep n) sn) = cf sn → ∀ e ∈ es, rStep n sn e = sn)
  | [], _, _ => ⟨Nat.le_refl _, fun _ e he => by simp at he⟩
  | e :: es, sn, hn => by
    rw [List.foldl_cons]
    have ih := rFold_cf n es (rStep n sn e) (by rw [rStep_len]; exact hn)
    rcases rStep_cf n sn e hn with h | h
    · rw [h] at ih ⊢
      refine ⟨ih.1, fun hc e' he' => ?_⟩
      rcases List.mem_cons.1 he' with rfl | he'
      · exact h
      · exact ih.2 hc e' he'
    · exact ⟨by omega, fun hc => by omega⟩
theorem rFold_fix (n : Nat) : ∀ (es : List (Nat × Nat)) (sn : List Bool), (∀ e ∈ es, rStep n sn e = sn) → es.foldl (rStep n) sn = sn
  | [], _, _ => rfl
  | e :: es, sn, h => by
    rw [List.foldl_cons, h e (by simp)]
    exact rFold_fix n es sn fun e' he' => h e' (by simp [he'])
theorem rRounds_fix (n : Nat) (es : List (Nat × Nat)) (sn : List Bool) (hn : n ≤ sn.length) : ∀ r, (∀ e ∈ es, rStep n (rRounds n es sn r) e = rRounds n es sn r) ∨ cf (rRounds n es sn r) + r ≤ cf sn
  | 0 => .inr (Nat.le_refl _)
  | r + 1 => by
    have hl : n ≤ (rRounds n es sn r).length := by rw [rRounds_len]; exact hn
    have hf := rFold_cf n es _ hl
    rcases rRounds_fix n es sn hn r with h | h
    · left
      show ∀ e ∈ es, rStep n (es.foldl (rStep n) (rRounds n es sn r)) e = es.foldl (rStep n) (rRounds n es sn r)
      rw [rFold_fix n es _ h]
      exact h
    · by_cases hc : cf (es.foldl (rStep n) (rRounds n es sn r)) = cf (rRounds n es sn r)
      · left
        have h2 := hf.2 hc
        show ∀ e ∈ es, rStep n (es.foldl (rStep n) (rRounds n es sn r)) e = es.foldl (rStep n) (rRounds n es sn r)
        rw [rFold_fix n es _ h2]
        exact h2
      · right
        show cf (es.foldl (rStep n) (rRounds n es sn r)) + (r + 1) ≤ cf sn
        omega
theorem cf_zero : ∀ (sn : List Bool), cf sn = 0 → ∀ k, k < sn.length → sn[k]? = some true
  | [], _, k, hk => by simp at hk
  | b :: sn, h, k, hk => by
    cases b with
    | false => simp [cf] at h
    | true =>
      match k with
      | 0 => rfl
      | k + 1 => exact cf_zero sn (by simpa [cf] using h) k (by simpa using hk)
/-- Behind sixteen rounds nothing more is come to. -/
theorem rRounds_closed (n : Nat) (es : List (Nat × Nat)) (sn : List Bool) (hs : sn.length = 16) (hn : n ≤ 12) (a b : Nat) (he : (a, b) ∈ es) (ha : a < n) (hb : b < n) (h : (rRounds n es sn 16)[a]? = some true) : (rRounds n es sn 16)[b]? = some true := by
  have hl := rRounds_len n es sn 16
  rcases rRounds_fix n es sn (by omega) 16 with hf | hf
  · have := hf (a, b) he
    unfold rStep at this
    rw [if_pos ⟨ha, hb, h⟩] at this
    rw [← this, List.getElem?_set, if_pos rfl, if_pos (by omega)]
  · have := cf_le sn
    exact cf_zero _ (by omega) b (by omega)
theorem rStep_mono (n : Nat) (sn : List Bool) (e : Nat × Nat) (i : Nat) (h : sn[i]? = some true) : (rStep n sn e)[i]? = some true := by
  unfold rStep
  split
  · rw [List.getElem?_set]
    split
    · rename_i he
      subst he
      rw [if_pos (List.getElem?_eq_some_iff.1 h).1]
    · exact h
  · exact h
theorem rFold_mono (n : Nat) : ∀ (es : List (Nat × Nat)) (sn : List Bool) (i : Nat), sn[i]? = some true → (es.foldl (rStep n) sn)[i]? = some true
  | [], _, _, h => h
  | e :: es, sn, i, h => by rw [List.foldl_cons]; exact rFold_mono n es _ i (rStep_mono n sn e i h)
theorem rRounds_mono (n : Nat) (es : List (Nat × Nat)) (sn : List Bool) (i : Nat) (h : sn[i]? = some true) : ∀ r, (rRounds n es sn r)[i]? = some true
  | 0 => h
  | r + 1 => rFold_mono n es _ i (rRounds_mono n es sn i h r)

section
variable {ks : List Int} {es : List (Int × Int)} {n m : Nat}
/-- All that is seen can be come to. -/
def RSound (ks : List Int) (es : List (Int × Int)) (n m : Nat) (sn : List Bool) : Prop := ∀ i, i < n → sn[i]? = some true → Reach (rItems ks n) (rSeqs es m) i
theorem RSound.step {sn : List Bool} (h : RSound ks es n m sn) (hn : n ≤ 12) {e : Nat × Nat} (he : e ∈ rEdges es m) : RSound ks es n m (rStep n sn e) := by
  intro i hi hs
  unfold rStep at hs
  split at hs
  · rename_i hc
    rw [List.getElem?_set] at hs
    split at hs
    · rename_i heq
      subst heq
      have hlt := rEdges_lt e he
      refine .step e.1 e.2 (rSeq e.1 e.2) (h e.1 hc.1 hc.2.2) (List.mem_map.2 ⟨e, he, rfl⟩) ?_ ?_
      · rw [rIdAt ks n e.1 hc.1]
        show eqS (lt e.1) (lt e.1) = true
        rw [lt_eq _ _ hlt.1 hlt.1]
        simp
      · show itemK (rItems ks n) (lt e.2) = _
        rw [rItemK ks n e.2 hn hlt.2, if_pos hc.2.1]
    · exact h i hi hs
  · exact h i hi hs
theorem RSound.fold (hn : n ≤ 12) : ∀ (l : List (Nat × Nat)) (sn : List Bool), (∀ e ∈ l, e ∈ rEdges es m) → RSound ks es n m sn → RSound ks es n m (l.foldl (rStep n) sn)
  | [], _, _, h => h
  | e :: l, sn, hl, h => by
    rw [List.foldl_cons]
    exact RSound.fold hn l _ (fun e' he' => hl e' (by simp [he'])) (h.step hn (hl e (by simp)))
theorem RSound.rounds (hn : n ≤ 12) {sn : List Bool} (h : RSound ks es n m sn) : ∀ r, RSound ks es n m (rRounds n (rEdges es m) sn r)
  | 0 => h
  | r + 1 => RSound.fold hn _ _ (fun _ he => he) (RSound.rounds hn h r)
/-- What the rounds start with. -/
def rSeen (ks : List Int) (n k : Nat) : List Bool := (List.range 16).map fun i => decide (i < k ∧ i < n) && isSt (rItem (rKind (ks.getD i 0)) i)
theorem rSeen_at (i k : Nat) (hi : i < 16) : (rSeen ks n k)[i]? = some (decide (i < k ∧ i < n) && isSt (rItem (rKind (ks.getD i 0)) i)) := by
  simp [rSeen, hi]
theorem rSeen_len (k : Nat) : (rSeen ks n k).length = 16 := by simp [rSeen]
theorem rSeen_zero : rSeen ks n 0 = List.replicate 16 false := by
  apply List.ext_getElem?
  intro i
  by_cases hi : i < 16
  · rw [rSeen_at i 0 hi, List.getElem?_replicate, if_pos hi]
    simp
  · rw [List.getElem?_eq_none (by rw [rSeen_len]; omega), List.getElem?_eq_none (by simp; omega)]
theorem rSeen_succ (k : Nat) (hk : k < n) (_hn : n ≤ 12) : rSeen ks n (k + 1) = (rSeen ks n k).set k (isSt (rItem (rKind (ks.getD k 0)) k)) := by
  apply List.ext_getElem?
  intro i
  by_cases hi : i < 16
  · rw [rSeen_at i (k + 1) hi, List.getElem?_set]
    by_cases hik : k = i
    · subst hik
      rw [if_pos rfl, if_pos (by rw [rSeen_len]; exact hi)]
      simp [hk]
    · rw [if_neg hik, rSeen_at i k hi]
      congr 2
      rw [decide_eq_decide]
      omega
  · rw [List.getElem?_eq_none (by rw [rSeen_len]; omega), List.getElem?_eq_none (by rw [List.length_set, rSeen_len]; omega)]
/-- Sixteen rounds come to what can be come to. -/
theorem rounds_reach (hn : n ≤ 12) (i : Nat) (hi : i < n) : (rRounds n (rEdges es m) (rSeen ks n n) 16)[i]? = some true ↔ Reach (rItems ks n) (rSeqs es m) i := by
  constructor
  · refine fun h => RSound.rounds hn (fun j hj hs => ?_) 16 i hi h
    rw [rSeen_at j n (by omega)] at hs
    refine .start j (by rw [rItems_len]; exact hj) ?_
    rw [rItems_at]
    simpa [hj] using hs
  · intro hr
    have key : ∀ j, Reach (rItems ks n) (rSeqs es m) j → j < n ∧ (rRounds n (rEdges es m) (rSeen ks n n) 16)[j]? = some true := by
      intro j hj
      induction hj with
      | start j hj hk =>
        have hjn : j < n := by simpa [rItems_len] using hj
        refine ⟨hjn, rRounds_mono _ _ _ _ ?_ 16⟩
        rw [rSeen_at j n (by omega)]
        rw [rItems_at] at hk
        rw [hk, Bool.and_true, decide_eq_true ⟨hjn, hjn⟩]
      | step j k q _ hq he hk ih =>
        obtain ⟨e, hee, rfl⟩ := List.mem_map.1 hq
        have hlt := rEdges_lt e hee
        rw [rIdAt ks n j ih.1] at he
        have he2 : eqS (lt e.1) (lt j) = true := he
        rw [lt_eq _ _ hlt.1 (by omega)] at he2
        have hej : e.1 = j := by simpa using he2
        have hk2 : itemK (rItems ks n) (lt e.2) = (k : Int) := hk
        rw [rItemK ks n e.2 hn hlt.2] at hk2
        split at hk2
        · rename_i hb
          have : e.2 = k := by omega
          subst this
          subst hej
          exact ⟨hb, rRounds_closed n _ _ (rSeen_len _) hn e.1 e.2 hee ih.1 hb ih.2⟩
        · omega
    exact (key i hr).2
end
end Go.Proofs.Ytljmghaplnkohaa
