/- What Enter does, as plain data; how the memory of Spaces is kept. -/
import Derived.Test.YtgdkmipkgjkjjaaSpaceB
namespace Go.Proofs.Ytgdkmipkgjkjjaa
open Go.RowKit

/-- What an attribute tells of. -/
def tellsV (n : ByteArray) : Option ByteArray :=
  if (n.toList == [120, 109, 108, 110, 115]) = true then some ⟨#[]⟩
  else if 6 ≤ n.size then (if ((n.extract 0 6).toList == [120, 109, 108, 110, 115, 58]) = true then some (n.extract 6 n.size) else none)
  else none
def tellsR (n : ByteArray) : Value := match tellsV n with
  | some p => .tuple #[.string p, .bool true]
  | none => .tuple #[.string n, .bool false]
theorem tells_pre_no (n v : ByteArray) (w : World) (h : (n.toList == [120, 109, 108, 110, 115]) = false) (h6 : 6 ≤ n.size) (hp : ((n.extract 0 6).toList == [120, 109, 108, 110, 115, 58]) = false) :
    Calls Try.prog 43 #[.agg #[.string n, .string v]] w fun e w' => e = .returned (.tuple #[.string n, .bool false]) ∧ Below w.heap.size w w' := by
  have h6' : (6 : Int) ≤ n.size := by omega
  go_enter Try.func43, Try.ntmps43
  go_wp2
  go_ret2
  exact ⟨rfl, (Below.refl _ _).alloc (Nat.le_refl _) _⟩
theorem tells_any (n v : ByteArray) (w : World) :
    Calls Try.prog 43 #[.agg #[.string n, .string v]] w fun e w' => e = .returned (tellsR n) ∧ Below w.heap.size w w' := by
  unfold tellsR tellsV
  cases h : (n.toList == [120, 109, 108, 110, 115])
  · rw [if_neg (by simp)]
    by_cases h6 : 6 ≤ n.size
    · rw [if_pos h6]
      cases hp : ((n.extract 0 6).toList == [120, 109, 108, 110, 115, 58])
      · rw [if_neg (by simp)]; exact tells_pre_no n v w h h6 hp
      · rw [if_pos rfl]; exact tells_pre n v w h h6 hp
    · rw [if_neg h6]; exact tells_not n v w h (by omega)
  · rw [if_pos rfl]; exact tells_xmlns n v w h

/-- May it not be told of? -/
def badP (p v : ByteArray) : Bool := p.toList == [120, 109, 108] || p.toList == [120, 109, 108, 110, 115] || (!p.toList.isEmpty && v.toList.isEmpty)
/-- What the attributes of an element do: the binds, the attributes that are handed on, the error. -/
def enterF (d : Int) : List (ByteArray × ByteArray) → List Bind → List (ByteArray × ByteArray) → List Bind × List (ByteArray × ByteArray) × Int
  | [], bs, outs => (bs, outs, 0)
  | (n, v) :: al, bs, outs => match tellsV n with
    | none => enterF d al bs (outs ++ [(n, v)])
    | some p => if badP p v = true then (bs, [], 3) else if 100 ≤ bs.length then (bs, [], 5) else enterF d al (bs ++ [(p, v, d)]) outs

/-- From w to w' nothing has turned that was there but for two blocks. -/
structure Far (w w' : World) (g A : Nat) : Prop where
  os : w'.os = w.os
  tape : w'.tape = w.tape
  output : w'.output = w.output
  size : w.heap.size ≤ w'.heap.size
  block : ∀ k, k < w.heap.size → k ≠ g → k ≠ A → w'.heap[k]? = w.heap[k]?
section
variable {w w1 w2 : World} {g A : Nat}
theorem Far.refl (w : World) (g A : Nat) : Far w w g A := ⟨rfl, rfl, rfl, Nat.le_refl _, fun _ _ _ _ => rfl⟩
theorem Far.below (h : Far w w1 g A) (hb : Below w1.heap.size w1 w2) : Far w w2 g A :=
  ⟨hb.os.trans h.os, hb.tape.trans h.tape, hb.output.trans h.output, Nat.le_trans h.size hb.size, fun k hk h1 h2 => (hb.block k (Nat.lt_of_lt_of_le hk h.size)).trans (h.block k hk h1 h2)⟩
theorem Far.drewN (h : Far w w1 g A) (n : Nat) : Far w (w1.drewN n) g A := ⟨h.os, h.tape, h.output, h.size, h.block⟩
theorem Far.drew (h : Far w w1 g A) : Far w w1.drew g A := ⟨h.os, h.tape, h.output, h.size, h.block⟩
theorem Far.alloc (h : Far w w1 g A) (o : Obj) : Far w (w1.alloc o) g A := h.below ((Below.refl _ _).alloc (Nat.le_refl _) o)
theorem Far.grown (h : Far w w1 g A) {row : Option Nat} (hg : w1.grownBy w2 row) (hr : ∀ k, row = some k → k = g ∨ k = A ∨ w.heap.size ≤ k) : Far w w2 g A :=
  ⟨hg.os.trans h.os, hg.tape.trans h.tape, hg.output.trans h.output, Nat.le_trans h.size hg.size, fun k hk h1 h2 => (hg.block k (Nat.lt_of_lt_of_le hk h.size) (fun e => by
    have := hr k e.symm
    omega)).trans (h.block k hk h1 h2)⟩
theorem Far.setCell (h : Far w w1 g A) {p : Addr} (hp : p.block = g ∨ p.block = A ∨ w.heap.size ≤ p.block) (u : Value) : Far w (w1.setCell p u) g A :=
  ⟨h.os, h.tape, h.output, Nat.le_trans h.size (by simp [World.setCell]), fun k hk h1 h2 => (Below.heap_setCell w1 p u k (by omega)).trans (h.block k hk h1 h2)⟩
theorem Far.to_below {B : Nat} (h : Far w w1 g A) (hg : B ≤ g) (hA : B ≤ A) (hB : B ≤ w.heap.size) : Below B w w1 := ⟨h.os, h.tape, h.output, h.size, fun k hk => h.block k (by omega) (by omega) (by omega)⟩
end
section
variable {w w1 : World} {base g A cap : Nat} {bs : List Bind} {d : Int}
theorem Sp.keep (h : Sp w base g A cap bs d) {row : Option Nat} (hg : w.grownBy w1 row) (hr : row ≠ some g ∧ row ≠ some A) : Sp w1 base g A cap bs d :=
  ⟨(hg.block g h.lt.1 (Ne.symm hr.1)).trans h.blk, h.own.kept hg (.inr (by show some A ≠ row; exact Ne.symm hr.2)), h.hg, h.ne⟩
theorem grown_of_below (hb : Below w.heap.size w w1) (row : Option Nat) : w.grownBy w1 row := ⟨hb.os, hb.tape, hb.output, hb.size, fun i hi _ => hb.block i hi⟩
theorem Sp.below (h : Sp w base g A cap bs d) (hb : Below w.heap.size w w1) : Sp w1 base g A cap bs d := h.keep (grown_of_below hb none) ⟨by simp, by simp⟩
theorem Sp.alloc (h : Sp w base g A cap bs d) (o : Obj) : Sp (w.alloc o) base g A cap bs d := h.below ((Below.refl _ _).alloc (Nat.le_refl _) o)
theorem Sp.drewN (h : Sp w base g A cap bs d) (n : Nat) : Sp (w.drewN n) base g A cap bs d := ⟨h.blk, h.own, h.hg, h.ne⟩
theorem Sp.setDepth (h : Sp w base g A cap bs d) (d' : Int) : Sp (w.setCell ⟨g, 1, none⟩ (.int .i64 d')) base g A cap bs d' := by
  refine ⟨?_, ?_, h.hg, h.ne⟩
  · have := h.blk
    simp [World.setCell, Array.getElem?_modify, this]
  · exact ownsRow_setCell_other h.own (by show some A ≠ some g; simpa using h.ne) _
end
end Go.Proofs.Ytgdkmipkgjkjjaa
