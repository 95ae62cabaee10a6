/- Letters that are written as names, as plain functions; a text whose letters are written as names is that text again. -/
import Derived.Test.YtgdkmipkgjkjjaaDoorEntU
import Derived.Lib.Bytealg
namespace Go.Proofs.YtgdkmipkgjkjjaaDoor
open Go.RowKit

/-- A letter of a text as names. -/
def escF (c : UInt8) : List UInt8 :=
  if c = 38 then [38, 97, 109, 112, 59] else if c = 60 then [38, 108, 116, 59] else if c = 62 then [38, 103, 116, 59] else if c = 34 then [38, 113, 117, 111, 116, 59]
  else if c = 9 then [38, 35, 57, 59] else if c = 10 then [38, 35, 49, 48, 59] else if c = 13 then [38, 35, 49, 51, 59] else [c]
def closeF (l : List UInt8) : List UInt8 := l.flatMap escF
/-- The letter of a name; 0: there is none. -/
@[irreducible] def namedF (l : List UInt8) : Int :=
  if l = [97, 109, 112] then 38 else if l = [108, 116] then 60 else if l = [103, 116] then 62 else if l = [113, 117, 111, 116] then 34 else if l = [97, 112, 111, 115] then 39 else 0
/-- A digit's number, of a base; -1: it is none. -/
@[irreducible] def digitF (c base : Int) : Int :=
  if 48 ≤ c ∧ c ≤ 57 then c - 48 else if base = 16 ∧ 97 ≤ c ∧ c ≤ 102 then c - 97 + 10 else if base = 16 ∧ 65 ≤ c ∧ c ≤ 70 then c - 65 + 10 else -1
/-- Digits' number, some being read. -/
def digitsF (base : Int) : List UInt8 → Int → Option Int
  | [], n => some n
  | c :: l, n => if digitF (c.toNat : Int) base < 0 then none else digitsF base l (n * base + digitF (c.toNat : Int) base)
def numberB (base : Int) (l : List UInt8) : Int :=
  if l = [] ∨ 8 < l.length then 0 else
  match digitsF base l 0 with
  | none => 0
  | some n => if letterB n = true then n else 0
/-- The letter of digits; 0: it is none that may stand in a text. -/
@[irreducible] def numberF : List UInt8 → Int
  | [] => numberB 10 []
  | c :: l => if c = 120 then numberB 16 l else numberB 10 (c :: l)
/-- The letter that a name between & and ; stands for; 0: none. -/
@[irreducible] def oneF : List UInt8 → Int
  | [] => namedF []
  | c :: l => if c = 35 then numberF l else namedF (c :: l)
/-- A text in which each name is its letter, from a place on. -/
def openG (l : List UInt8) (i : Int) (out : List UInt8) : List UInt8 × Int :=
  match l with
  | [] => (out, -1)
  | c :: r =>
    if c ≠ 38 then openG r (i + 1) (out ++ [c])
    else if Lib.indexByte (c :: r) 59 < 0 then ([], i)
    else if oneF (r.take ((Lib.indexByte (c :: r) 59).toNat - 1)) = 0 then ([], i)
    else openG (r.drop (Lib.indexByte (c :: r) 59).toNat) (i + Lib.indexByte (c :: r) 59 + 1) (out ++ Lib.bytesOf (putI (oneF (r.take ((Lib.indexByte (c :: r) 59).toNat - 1)))))
termination_by l.length
def openF (l : List UInt8) : List UInt8 × Int := openG l 0 []

theorem openG_nil (i : Int) (out : List UInt8) : openG [] i out = (out, -1) := by rw [openG]
theorem openG_plain {c : UInt8} {r : List UInt8} {i : Int} {out : List UInt8} (h : c ≠ 38) : openG (c :: r) i out = openG r (i + 1) (out ++ [c]) := by
  rw [openG, if_pos h]
theorem openG_open {r : List UInt8} {i : Int} {out : List UInt8} (h : Lib.indexByte (38 :: r) 59 < 0) : openG (38 :: r) i out = ([], i) := by
  rw [openG, if_neg (by simp), if_pos h]
theorem openG_none {r : List UInt8} {i : Int} {out : List UInt8} {k : Nat} (h : Lib.indexByte (38 :: r) 59 = (k : Int) + 1) (h1 : oneF (r.take k) = 0) : openG (38 :: r) i out = ([], i) := by
  have e : ((k : Int) + 1).toNat - 1 = k := by omega
  rw [openG, if_neg (by simp), h, if_neg (by omega), e, if_pos h1]
theorem openG_some {r : List UInt8} {i : Int} {out : List UInt8} {k : Nat} (h : Lib.indexByte (38 :: r) 59 = (k : Int) + 1) (h1 : oneF (r.take k) ≠ 0) :
    openG (38 :: r) i out = openG (r.drop (k + 1)) (i + ((k : Int) + 1) + 1) (out ++ Lib.bytesOf (putI (oneF (r.take k)))) := by
  have e : ((k : Int) + 1).toNat - 1 = k := by omega
  have e2 : ((k : Int) + 1).toNat = k + 1 := by omega
  conv => lhs; rw [openG]
  rw [if_neg (by simp), h, if_neg (by omega), e, if_neg h1, e2]

theorem esc_step (c : UInt8) (r : List UInt8) (i : Int) (out : List UInt8) : ∃ j, openG (escF c ++ r) i out = openG r j (out ++ [c]) := by
  have go : ∀ (q : List UInt8) (k : Nat), Lib.indexByte (38 :: (q ++ 59 :: r)) 59 = (k : Int) + 1 → (q ++ 59 :: r).take k = q → (q ++ 59 :: r).drop (k + 1) = r → oneF q ≠ 0 → Lib.bytesOf (putI (oneF q)) = [c] → ∃ j, openG (38 :: (q ++ 59 :: r)) i out = openG r j (out ++ [c]) := by
    intro q k h1 h2 h3 h4 h5
    rw [openG_some h1 (by rw [h2]; exact h4), h2, h3, h5]
    exact ⟨_, rfl⟩
  unfold escF
  by_cases h1 : c = 38
  · rw [if_pos h1, h1]
    exact (h1 ▸ go) [97, 109, 112] 3 (by simp [Lib.indexByte]) rfl rfl (by decide +kernel) (by decide +kernel)
  rw [if_neg h1]
  by_cases h2 : c = 60
  · rw [if_pos h2, h2]
    exact (h2 ▸ go) [108, 116] 2 (by simp [Lib.indexByte]) rfl rfl (by decide +kernel) (by decide +kernel)
  rw [if_neg h2]
  by_cases h3 : c = 62
  · rw [if_pos h3, h3]
    exact (h3 ▸ go) [103, 116] 2 (by simp [Lib.indexByte]) rfl rfl (by decide +kernel) (by decide +kernel)
  rw [if_neg h3]
  by_cases h4 : c = 34
  · rw [if_pos h4, h4]
    exact (h4 ▸ go) [113, 117, 111, 116] 4 (by simp [Lib.indexByte]) rfl rfl (by decide +kernel) (by decide +kernel)
  rw [if_neg h4]
  by_cases h5 : c = 9
  · rw [if_pos h5, h5]
    exact (h5 ▸ go) [35, 57] 2 (by simp [Lib.indexByte]) rfl rfl (by decide +kernel) (by decide +kernel)
  rw [if_neg h5]
  by_cases h6 : c = 10
  · rw [if_pos h6, h6]
    exact (h6 ▸ go) [35, 49, 48] 3 (by simp [Lib.indexByte]) rfl rfl (by decide +kernel) (by decide +kernel)
  rw [if_neg h6]
  by_cases h7 : c = 13
  · rw [if_pos h7, h7]
    exact (h7 ▸ go) [35, 49, 51] 3 (by simp [Lib.indexByte]) rfl rfl (by decide +kernel) (by decide +kernel)
  rw [if_neg h7]
  exact ⟨_, openG_plain (r := r) h1⟩
theorem open_close (l : List UInt8) : ∀ (i : Int) (out : List UInt8), openG (closeF l) i out = (out ++ l, -1) := by
  induction l with
  | nil => intro i out; show openG [] i out = _; rw [openG_nil, List.append_nil]
  | cons c l ih =>
    intro i out
    show openG (escF c ++ closeF l) i out = _
    obtain ⟨j, hj⟩ := esc_step c (closeF l) i out
    rw [hj, ih, List.append_assoc]
    rfl
theorem escF_len (c : UInt8) : (escF c).length ≤ 6 := by
  unfold escF
  (repeat' split) <;> simp
theorem closeF_len (l : List UInt8) : (closeF l).length ≤ 6 * l.length := by
  induction l with
  | nil => simp [closeF]
  | cons c l ih =>
    have := escF_len c
    show (escF c ++ closeF l).length ≤ _
    rw [List.length_append, List.length_cons]
    omega
end Go.Proofs.YtgdkmipkgjkjjaaDoor
