/- Nested data in memory: slices within structs within slices, read as data; what new memory leaves as it was. -/
import Derived.Test.YteoioboiniealaaKit
namespace Go.Proofs.Yteoioboiniealaa
open Go.RowKit

/-- A datum in one cell. -/
inductive Dat where
  | int (n : Int)
  | str (s : ByteArray)
  | bool (b : Bool)
  | sl (e : TypeId) (sz n : Nat) (cs : List Dat)

mutual
/-- A value reads as a datum. -/
def Rd (w : World) : Dat → Value → Prop
  | .int n, v => v = .int .i64 n
  | .str s, v => v = .string s
  | .bool b, v => v = .bool b
  | .sl e sz n ds, v => ∃ A c xs, v = .slice A n c ∧ w.ownsRow 0 e sz (.slice A n c) n xs ∧ RdL w ds xs
/-- Cells read as data. -/
def RdL (w : World) : List Dat → List Value → Prop
  | [], xs => xs = []
  | d :: ds, xs => ∃ v r, xs = v :: r ∧ Rd w d v ∧ RdL w ds r
end

mutual
theorem Rd.below {w w1 : World} (hb : Below w.heap.size w w1) : ∀ (d : Dat) (v : Value), Rd w d v → Rd w1 d v
  | .int _, _, h => by unfold Rd at *; exact h
  | .str _, _, h => by unfold Rd at *; exact h
  | .bool _, _, h => by unfold Rd at *; exact h
  | .sl e sz n ds, v, h => by
    unfold Rd at *
    obtain ⟨A, c, xs, hv, ho, hl⟩ := h
    exact ⟨A, c, xs, hv, own_below ho hb, RdL.below hb ds xs hl⟩
theorem RdL.below {w w1 : World} (hb : Below w.heap.size w w1) : ∀ (ds : List Dat) (xs : List Value), RdL w ds xs → RdL w1 ds xs
  | [], _, h => by unfold RdL at *; exact h
  | d :: ds, xs, h => by
    unfold RdL at *
    obtain ⟨v, r, hx, hd, hl⟩ := h
    exact ⟨v, r, hx, Rd.below hb d v hd, RdL.below hb ds r hl⟩
end

section
variable {w : World}
theorem rd_int {n : Int} {v : Value} : Rd w (.int n) v ↔ v = .int .i64 n := by unfold Rd; exact Iff.rfl
theorem rd_str {s : ByteArray} {v : Value} : Rd w (.str s) v ↔ v = .string s := by unfold Rd; exact Iff.rfl
theorem rd_bool {b : Bool} {v : Value} : Rd w (.bool b) v ↔ v = .bool b := by unfold Rd; exact Iff.rfl
theorem rd_sl {e sz n : Nat} {ds : List Dat} {v : Value} : Rd w (.sl e sz n ds) v ↔ ∃ A c xs, v = .slice A n c ∧ w.ownsRow 0 e sz (.slice A n c) n xs ∧ RdL w ds xs := by
  constructor
  · intro h; unfold Rd at h; exact h
  · intro h; unfold Rd; exact h
theorem rdl_nil {xs : List Value} : RdL w [] xs ↔ xs = [] := by unfold RdL; exact Iff.rfl
theorem rdl_cons {d : Dat} {ds : List Dat} {xs : List Value} : RdL w (d :: ds) xs ↔ ∃ v r, xs = v :: r ∧ Rd w d v ∧ RdL w ds r := by
  constructor
  · intro h; unfold RdL at h; exact h
  · intro h; unfold RdL; exact h
theorem RdL.len : ∀ {ds : List Dat} {xs : List Value}, RdL w ds xs → xs.length = ds.length
  | [], xs, h => by rw [rdl_nil.1 h]; rfl
  | d :: ds, xs, h => by
    obtain ⟨v, r, rfl, _, hl⟩ := rdl_cons.1 h
    simp [hl.len]
theorem RdL.append : ∀ {ds es : List Dat} {xs ys : List Value}, RdL w ds xs → RdL w es ys → RdL w (ds ++ es) (xs ++ ys)
  | [], _, xs, _, h, k => by rw [rdl_nil.1 h]; exact k
  | d :: ds, es, xs, ys, h, k => by
    obtain ⟨v, r, rfl, hd, hl⟩ := rdl_cons.1 h
    exact rdl_cons.2 ⟨v, r ++ ys, rfl, hd, hl.append k⟩
theorem RdL.split : ∀ {ds es : List Dat} {xs : List Value}, RdL w (ds ++ es) xs → ∃ a b, xs = a ++ b ∧ RdL w ds a ∧ RdL w es b
  | [], es, xs, h => ⟨[], xs, rfl, rdl_nil.2 rfl, h⟩
  | d :: ds, es, xs, h => by
    obtain ⟨v, r, rfl, hd, hl⟩ := rdl_cons.1 h
    obtain ⟨a, b, rfl, ha, hb⟩ := hl.split
    exact ⟨v :: a, b, rfl, rdl_cons.2 ⟨v, a, rfl, hd, ha⟩, hb⟩
end

mutual
/-- A value reads as a datum, all its blocks of a kind. -/
def RdP (S : Nat → Prop) (w : World) : Dat → Value → Prop
  | .int n, v => v = .int .i64 n
  | .str s, v => v = .string s
  | .bool b, v => v = .bool b
  | .sl e sz n ds, v => ∃ A c xs, v = .slice A n c ∧ w.ownsRow 0 e sz (.slice A n c) n xs ∧ (∀ b, v.ownBlock = some b → S b) ∧ RdPL S w ds xs
def RdPL (S : Nat → Prop) (w : World) : List Dat → List Value → Prop
  | [], xs => xs = []
  | d :: ds, xs => ∃ v r, xs = v :: r ∧ RdP S w d v ∧ RdPL S w ds r
end
theorem own_same {w w1 : World} {base e size n : Nat} {v : Value} {xs : List Value} (h : w.ownsRow base e size v n xs) (hk : ∀ b, v.ownBlock = some b → w1.heap[b]? = w.heap[b]?) : w1.ownsRow base e size v n xs :=
  ⟨h.1, h.2.imp id fun ⟨g, cap, cur, a, b, hh, r⟩ => ⟨g, cap, cur, a, b, (hk g (by rw [a]; rfl)).trans hh, r⟩⟩
mutual
theorem RdP.rd {S : Nat → Prop} {w : World} : ∀ (d : Dat) (v : Value), RdP S w d v → Rd w d v
  | .int _, _, h => by unfold RdP at h; unfold Rd; exact h
  | .str _, _, h => by unfold RdP at h; unfold Rd; exact h
  | .bool _, _, h => by unfold RdP at h; unfold Rd; exact h
  | .sl _ _ _ ds, _, h => by
    unfold RdP at h
    unfold Rd
    obtain ⟨A, c, xs, hv, ho, _, hl⟩ := h
    exact ⟨A, c, xs, hv, ho, RdPL.rd ds xs hl⟩
theorem RdPL.rd {S : Nat → Prop} {w : World} : ∀ (ds : List Dat) (xs : List Value), RdPL S w ds xs → RdL w ds xs
  | [], _, h => by unfold RdPL at h; unfold RdL; exact h
  | d :: ds, _, h => by
    unfold RdPL at h
    unfold RdL
    obtain ⟨v, r, hx, hd, hl⟩ := h
    exact ⟨v, r, hx, RdP.rd d v hd, RdPL.rd ds r hl⟩
end
mutual
/-- Kept where the blocks of that kind are; the kind may be turned to one that holds of what is there. -/
theorem RdP.keep {S S' : Nat → Prop} {w w1 : World} (hk : ∀ b, S b → b < w.heap.size → w1.heap[b]? = w.heap[b]? ∧ S' b) : ∀ (d : Dat) (v : Value), RdP S w d v → RdP S' w1 d v
  | .int _, _, h => by unfold RdP at *; exact h
  | .str _, _, h => by unfold RdP at *; exact h
  | .bool _, _, h => by unfold RdP at *; exact h
  | .sl _ _ _ ds, v, h => by
    unfold RdP at *
    obtain ⟨A, c, xs, hv, ho, hs, hl⟩ := h
    subst hv
    have hb : ∀ b, (Value.slice A _ c).ownBlock = some b → w1.heap[b]? = w.heap[b]? ∧ S' b := fun b hb => hk b (hs b hb) (ho.lt b hb).2
    exact ⟨A, c, xs, rfl, own_same ho fun b h => (hb b h).1, fun b h => (hb b h).2, RdPL.keep hk ds xs hl⟩
theorem RdPL.keep {S S' : Nat → Prop} {w w1 : World} (hk : ∀ b, S b → b < w.heap.size → w1.heap[b]? = w.heap[b]? ∧ S' b) : ∀ (ds : List Dat) (xs : List Value), RdPL S w ds xs → RdPL S' w1 ds xs
  | [], _, h => by unfold RdPL at *; exact h
  | d :: ds, _, h => by
    unfold RdPL at *
    obtain ⟨v, r, hx, hd, hl⟩ := h
    exact ⟨v, r, hx, RdP.keep hk d v hd, RdPL.keep hk ds r hl⟩
end
theorem RdP.below {S : Nat → Prop} {w w1 : World} {d : Dat} {v : Value} (h : RdP S w d v) (hb : Below w.heap.size w w1) : RdP S w1 d v := RdP.keep (fun b hs hl => ⟨hb.block b hl, hs⟩) d v h
theorem RdPL.below {S : Nat → Prop} {w w1 : World} {ds : List Dat} {xs : List Value} (h : RdPL S w ds xs) (hb : Below w.heap.size w w1) : RdPL S w1 ds xs := RdPL.keep (fun b hs hl => ⟨hb.block b hl, hs⟩) ds xs h
theorem RdP.mono {S S' : Nat → Prop} {w : World} {d : Dat} {v : Value} (h : RdP S w d v) (hs : ∀ b, S b → S' b) : RdP S' w d v := RdP.keep (fun b hb _ => ⟨rfl, hs b hb⟩) d v h
section
variable {S : Nat → Prop} {w : World}
theorem rdp_int {n : Int} {v : Value} : RdP S w (.int n) v ↔ v = .int .i64 n := by unfold RdP; exact Iff.rfl
theorem rdp_str {s : ByteArray} {v : Value} : RdP S w (.str s) v ↔ v = .string s := by unfold RdP; exact Iff.rfl
theorem rdp_bool {b : Bool} {v : Value} : RdP S w (.bool b) v ↔ v = .bool b := by unfold RdP; exact Iff.rfl
theorem rdp_sl {e sz n : Nat} {ds : List Dat} {v : Value} : RdP S w (.sl e sz n ds) v ↔ ∃ A c xs, v = .slice A n c ∧ w.ownsRow 0 e sz (.slice A n c) n xs ∧ (∀ b, v.ownBlock = some b → S b) ∧ RdPL S w ds xs := by
  constructor
  · intro h; unfold RdP at h; exact h
  · intro h; unfold RdP; exact h
theorem rdpl_nil {xs : List Value} : RdPL S w [] xs ↔ xs = [] := by unfold RdPL; exact Iff.rfl
theorem rdpl_cons {d : Dat} {ds : List Dat} {xs : List Value} : RdPL S w (d :: ds) xs ↔ ∃ v r, xs = v :: r ∧ RdP S w d v ∧ RdPL S w ds r := by
  constructor
  · intro h; unfold RdPL at h; exact h
  · intro h; unfold RdPL; exact h
theorem RdPL.append : ∀ {ds es : List Dat} {xs ys : List Value}, RdPL S w ds xs → RdPL S w es ys → RdPL S w (ds ++ es) (xs ++ ys)
  | [], _, xs, _, h, k => by rw [rdpl_nil.1 h]; exact k
  | d :: ds, es, xs, ys, h, k => by
    obtain ⟨v, r, rfl, hd, hl⟩ := rdpl_cons.1 h
    exact rdpl_cons.2 ⟨v, r ++ ys, rfl, hd, hl.append k⟩
end
/-- What has been appended is new. -/
theorem rdp_of_own {w : World} {base e sz n c : Nat} {ds : List Dat} {A : Option Addr} {xs : List Value} {S : Nat → Prop} (ho : w.ownsRow base e sz (.slice A n c) n xs) (hs : ∀ b, base ≤ b → S b) (hl : RdPL S w ds xs) : RdP S w (.sl e sz n ds) (.slice A n c) :=
  rdp_sl.2 ⟨A, c, xs, rfl, own_mono ho (by omega), fun b hb => hs b (ho.lt b hb).1, hl⟩

/-- A slice of things, each so many cells. -/
def datS {α : Type} (e : TypeId) (sz : Nat) (f : α → List Dat) (l : List α) : Dat := .sl e sz l.length (l.flatMap f)
/-- An element of it: its cells. -/
theorem rdl_at {α : Type} {w : World} {sz : Nat} {f : α → List Dat} (hf : ∀ x, (f x).length = sz) : ∀ {l : List α} {xs : List Value} (k : Nat) (h : k < l.length), RdL w (l.flatMap f) xs → ∃ vs, vs.length = sz ∧ RdL w (f l[k]) vs ∧ ∀ j, j < sz → xs[k * sz + j]? = vs[j]?
  | x :: l, xs, 0, _, h => by
    rw [List.flatMap_cons] at h
    obtain ⟨a, b, rfl, ha, _⟩ := h.split
    have hl := ha.len
    rw [hf] at hl
    exact ⟨a, hl, ha, fun j hj => by rw [Nat.zero_mul, Nat.zero_add, List.getElem?_append_left (by omega)]⟩
  | x :: l, xs, k + 1, hk, h => by
    rw [List.flatMap_cons] at h
    obtain ⟨a, b, rfl, ha, hb⟩ := h.split
    have hl := ha.len
    rw [hf] at hl
    obtain ⟨vs, h1, h2, h3⟩ := rdl_at hf k (by simpa using hk) hb
    refine ⟨vs, h1, h2, fun j hj => ?_⟩
    rw [← h3 j hj, List.getElem?_append_right (by rw [hl, Nat.succ_mul]; omega)]
    congr 1
    rw [hl, Nat.succ_mul]
    omega
/-- .. in memory: the address, and the cells of an element. -/
theorem rd_at {α : Type} {w : World} {e sz : Nat} {f : α → List Dat} (hf : ∀ x, (f x).length = sz) {l : List α} {v : Value} (h : Rd w (datS e sz f l) v) :
    ∃ A c, v = .slice A l.length c ∧ l.length ≤ c ∧ c ≤ maxLen ∧ ∀ (k : Nat) (_ : k < l.length), ∃ b vs, A = some ⟨b, 0, none⟩ ∧ b < w.heap.size ∧ vs.length = sz ∧ RdL w (f l[k]) vs ∧ ∀ j, j < sz → w.cell? ⟨b, k * sz + j, none⟩ = vs[j]? := by
  obtain ⟨A, c, xs, rfl, ho, hl⟩ := rd_sl.1 h
  obtain ⟨A', c', hv, h1, h2⟩ := own_slice ho
  injection hv with e1 _ e3
  subst e1
  subst e3
  refine ⟨A, c, rfl, h1, h2, fun k hk => ?_⟩
  obtain ⟨b, rfl, hb, _, hcell⟩ := own_at ho (by omega)
  obtain ⟨vs, hlen, hvs, hat⟩ := rdl_at hf k hk hl
  refine ⟨b, vs, rfl, hb, hlen, hvs, fun j hj => ?_⟩
  rw [hcell _ (by
    have : (k + 1) * sz ≤ l.length * sz := Nat.mul_le_mul_right _ hk
    rw [Nat.succ_mul] at this
    omega), hat j hj]
end Go.Proofs.Yteoioboiniealaa
