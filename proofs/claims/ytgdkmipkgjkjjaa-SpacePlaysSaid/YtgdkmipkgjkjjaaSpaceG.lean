/- The law SpacePlays in plain words: what has been told, element within element. -/
import Derived.Test.YtgdkmipkgjkjjaaSpaceE
namespace Go.Proofs.Ytgdkmipkgjkjjaa
open Go.RowKit

/-- What an element tells: of no prefix, of p, of q. -/
structure Seg where
  a : Option ByteArray
  b : Option ByteArray
  c : Option ByteArray
def pNo : ByteArray := ⟨#[]⟩
def pP : ByteArray := ⟨#[112]⟩
def pQ : ByteArray := ⟨#[113]⟩
def optB (p : ByteArray) (d : Int) : Option ByteArray → List Bind
  | none => []
  | some u => [(p, u, d)]
def segB (s : Seg) (d : Int) : List Bind := optB pNo d s.a ++ (optB pP d s.b ++ optB pQ d s.c)
/-- The binds of elements, the innermost first in the list. -/
def bsOf : List Seg → List Bind
  | [] => newB
  | s :: l => bsOf l ++ segB s ((l.length : Int) + 1)
/-- What prefixes stand for there. -/
structure Top where
  a : Option ByteArray
  b : Option ByteArray
  c : Option ByteArray
def over (o t : Option ByteArray) : Option ByteArray := match o with
  | some u => some u
  | none => t
def topOf : List Seg → Top
  | [] => ⟨some pNo, none, none⟩
  | s :: l => ⟨over s.a (topOf l).a, over s.b (topOf l).b, over s.c (topOf l).c⟩
theorem ofK_le (bs bs2 : List Bind) (p : ByteArray) : ∀ k, k ≤ bs.length → ofK (bs ++ bs2) p k = ofK bs p k
  | 0, _ => rfl
  | k + 1, h => by
    have hk : k < bs.length := h
    have e : (bs ++ bs2)[k]'(by simp; omega) = bs[k] := List.getElem_append_left hk
    rw [ofK, ofK, dif_pos (by simp; omega), dif_pos hk, e, ofK_le bs bs2 p k (by omega)]
theorem ofK_snoc (bs : List Bind) (b : Bind) (p : ByteArray) : ofK (bs ++ [b]) p (bs ++ [b]).length = if (b.1.toList == p.toList) = true then some b.2.1 else ofK bs p bs.length := by
  rw [List.length_append, List.length_singleton, ofK, dif_pos (by simp)]
  have e : (bs ++ [b])[bs.length]'(by simp) = b := by simp
  rw [e, ofK_le bs [b] p bs.length (Nat.le_refl _)]
theorem ofK_opt (bs : List Bind) (q p : ByteArray) (d : Int) (o : Option ByteArray) : ofK (bs ++ optB q d o) p (bs ++ optB q d o).length = if (q.toList == p.toList) = true then over o (ofK bs p bs.length) else ofK bs p bs.length := by
  cases o with
  | none => simp [optB, over]
  | some u => exact ofK_snoc bs (q, u, d) p
theorem ofK_segB (bs : List Bind) (s : Seg) (d : Int) (p : ByteArray) : ofK (bs ++ segB s d) p (bs ++ segB s d).length =
    (let x := ofK bs p bs.length
     let x := if (pNo.toList == p.toList) = true then over s.a x else x
     let x := if (pP.toList == p.toList) = true then over s.b x else x
     if (pQ.toList == p.toList) = true then over s.c x else x) := by
  unfold segB
  rw [← List.append_assoc, ← List.append_assoc, ofK_opt, ofK_opt, ofK_opt]
theorem eNN : (pNo.toList == pNo.toList) = true := by decide +kernel
theorem eNP : (pNo.toList == pP.toList) = false := by decide +kernel
theorem eNQ : (pNo.toList == pQ.toList) = false := by decide +kernel
theorem ePN : (pP.toList == pNo.toList) = false := by decide +kernel
theorem ePP : (pP.toList == pP.toList) = true := by decide +kernel
theorem ePQ : (pP.toList == pQ.toList) = false := by decide +kernel
theorem eQN : (pQ.toList == pNo.toList) = false := by decide +kernel
theorem eQP : (pQ.toList == pP.toList) = false := by decide +kernel
theorem eQQ : (pQ.toList == pQ.toList) = true := by decide +kernel
/-- What a prefix stands for is what the innermost one tells that tells of it. -/
theorem ofK_top : ∀ l : List Seg, ofK (bsOf l) pNo (bsOf l).length = (topOf l).a ∧ ofK (bsOf l) pP (bsOf l).length = (topOf l).b ∧ ofK (bsOf l) pQ (bsOf l).length = (topOf l).c
  | [] => by
    refine ⟨?_, ?_, ?_⟩ <;> decide +kernel
  | s :: l => by
    obtain ⟨h1, h2, h3⟩ := ofK_top l
    unfold bsOf topOf
    rw [ofK_segB, ofK_segB, ofK_segB]
    simp only [eNN, eNP, eNQ, ePN, ePP, ePQ, eQN, eQP, eQQ, h1, h2, h3]
    exact ⟨rfl, rfl, rfl⟩
theorem ofK_xml : ∀ l : List Seg, ofK (bsOf l) xmlS (bsOf l).length = some xmlU
  | [] => by decide +kernel
  | s :: l => by
    have h1 : (pNo.toList == xmlS.toList) = false := by decide +kernel
    have h2 : (pP.toList == xmlS.toList) = false := by decide +kernel
    have h3 : (pQ.toList == xmlS.toList) = false := by decide +kernel
    unfold bsOf
    rw [ofK_segB]
    simp only [h1, h2, h3, ofK_xml l]
    rfl
theorem optB_len (p : ByteArray) (d : Int) (o : Option ByteArray) : (optB p d o).length ≤ 1 := by cases o <;> simp [optB]
theorem segB_len (s : Seg) (d : Int) : (segB s d).length ≤ 3 := by
  have h1 := optB_len pNo d s.a
  have h2 := optB_len pP d s.b
  have h3 := optB_len pQ d s.c
  simp only [segB, List.length_append]
  omega
theorem bsOf_len : ∀ l : List Seg, (bsOf l).length ≤ 2 + 3 * l.length
  | [] => by decide
  | s :: l => by
    have h1 := bsOf_len l
    have h2 := segB_len s ((l.length : Int) + 1)
    simp only [bsOf, List.length_append, List.length_cons]
    omega
theorem optB_depth {p : ByteArray} {d : Int} {o : Option ByteArray} {b : Bind} (h : b ∈ optB p d o) : b.2.2 = d := by
  cases o with
  | none => simp [optB] at h
  | some u => simp [optB] at h; rw [h]
theorem segB_depth {s : Seg} {d : Int} {b : Bind} (h : b ∈ segB s d) : b.2.2 = d := by
  unfold segB at h
  rw [List.mem_append, List.mem_append] at h
  rcases h with h | h | h <;> exact optB_depth h
theorem bsOf_depth : ∀ (l : List Seg) (b : Bind), b ∈ bsOf l → b.2.2 ≤ (l.length : Int)
  | [], b, h => by
    have : b = (xmlS, xmlU, 0) ∨ b = (⟨#[]⟩, ⟨#[]⟩, 0) := by simpa [bsOf, newB] using h
    rcases this with rfl | rfl <;> simp
  | s :: l, b, h => by
    unfold bsOf at h
    rw [List.mem_append] at h
    rcases h with h | h
    · have := bsOf_depth l b h
      simp only [List.length_cons]
      omega
    · rw [segB_depth h]
      simp
def atX : ByteArray × ByteArray := (⟨#[120]⟩, ⟨#[121]⟩)
def atNo : ByteArray := ⟨#[120, 109, 108, 110, 115]⟩
def atPp : ByteArray := ⟨#[120, 109, 108, 110, 115, 58, 112]⟩
def atQq : ByteArray := ⟨#[120, 109, 108, 110, 115, 58, 113]⟩
def optA (n : ByteArray) : Option ByteArray → List (ByteArray × ByteArray)
  | none => []
  | some u => [(n, u)]
/-- The attributes that tell so. -/
def segA (s : Seg) : List (ByteArray × ByteArray) := atX :: (optA atNo s.a ++ (optA atPp s.b ++ optA atQq s.c))
theorem enterF_x (d : Int) (bs : List Bind) (r : List (ByteArray × ByteArray)) (o : List (ByteArray × ByteArray)) : enterF d (atX :: r) bs o = enterF d r bs (o ++ [atX]) := by
  have ht : tellsV atX.1 = none := by decide +kernel
  rw [enterF]
  · rw [ht]
theorem enterF_tell (d : Int) (n p u : ByteArray) (bs : List Bind) (r o : List (ByteArray × ByteArray)) (ht : tellsV n = some p) (hb : badP p u = false) (hl : bs.length < 100) : enterF d ((n, u) :: r) bs o = enterF d r (bs ++ [(p, u, d)]) o := by
  rw [enterF, ht]
  simp only [hb]
  rw [if_neg (by simp), if_neg (by omega)]
theorem enterF_opt (d : Int) (n p : ByteArray) (v : Option ByteArray) (bs : List Bind) (r o : List (ByteArray × ByteArray)) (ht : tellsV n = some p) (hb : ∀ u, v = some u → badP p u = false) (hl : bs.length < 100) : enterF d (optA n v ++ r) bs o = enterF d r (bs ++ optB p d v) o := by
  cases v with
  | none => simp [optA, optB]
  | some u => exact enterF_tell d n p u bs r o ht (hb u rfl) hl
/-- A text that an element may tell of. -/
def okU (o : Option ByteArray) : Prop := ∀ u, o = some u → u.toList.isEmpty = false
theorem badP_no (u : ByteArray) : badP pNo u = false := by
  have h1 : (pNo.toList == [120, 109, 108]) = false := by decide +kernel
  have h2 : (pNo.toList == [120, 109, 108, 110, 115]) = false := by decide +kernel
  have h3 : pNo.toList.isEmpty = true := by decide +kernel
  simp [badP, h1, h2, h3]
theorem badP_p (u : ByteArray) (h : u.toList.isEmpty = false) : badP pP u = false := by
  have h1 : (pP.toList == [120, 109, 108]) = false := by decide +kernel
  have h2 : (pP.toList == [120, 109, 108, 110, 115]) = false := by decide +kernel
  simp [badP, h1, h2, h]
theorem badP_q (u : ByteArray) (h : u.toList.isEmpty = false) : badP pQ u = false := by
  have h1 : (pQ.toList == [120, 109, 108]) = false := by decide +kernel
  have h2 : (pQ.toList == [120, 109, 108, 110, 115]) = false := by decide +kernel
  simp [badP, h1, h2, h]
/-- Entering: what it tells comes to what is known; one attribute is left. -/
theorem enterF_seg (d : Int) (s : Seg) (bs : List Bind) (h1 : okU s.b) (h2 : okU s.c) (hl : bs.length ≤ 97) : enterF d (segA s) bs [] = (bs ++ segB s d, [atX], 0) := by
  have t1 : tellsV atNo = some pNo := by decide +kernel
  have t2 : tellsV atPp = some pP := by decide +kernel
  have t3 : tellsV atQq = some pQ := by decide +kernel
  have l1 := optB_len pNo d s.a
  have l2 := optB_len pP d s.b
  unfold segA
  rw [enterF_x, enterF_opt d atNo pNo s.a _ _ _ t1 (fun u _ => badP_no u) (by omega), enterF_opt d atPp pP s.b _ _ _ t2 (fun u hu => badP_p u (h1 u hu)) (by rw [List.length_append]; omega)]
  have := enterF_opt d atQq pQ s.c ((bs ++ optB pNo d s.a) ++ optB pP d s.b) [] ([] ++ [atX]) t3 (fun u hu => badP_q u (h2 u hu)) (by rw [List.length_append, List.length_append]; omega)
  rw [List.append_nil] at this
  rw [this, enterF]
  simp [segB]
end Go.Proofs.Ytgdkmipkgjkjjaa
