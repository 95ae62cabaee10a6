/- Memory of a task that the generator makes. -/
import Derived.Test.YteoioboiniealaaGenE
namespace Go.Proofs.Yteoioboiniealaa
open Go.RowKit

theorem Blk.newB {B : Nat} {V T : World} {cs : Array Value} {t : TypeId} (_hb : Below B V T) (n : Nat) (hn : T.heap.size = n) : Blk (T.alloc (.cells cs t)) n t cs := by
  subst hn
  exact Blk.new T t cs
theorem own_blkG {w : World} {g e sz n base : Nat} {cs : Array Value} (hb : Blk w g e cs) (hm : n ≤ maxLen) (hs : cs.size = n * sz) (hg : base ≤ g) : w.ownsRow base e sz (.slice (some ⟨g, 0, none⟩) n n) n cs.toList :=
  ⟨by simpa using hs, .inr ⟨g, n, cs, rfl, hg, hb, Nat.le_refl _, hm, hs, List.take_of_length_le (by rw [Array.length_toList, hs]; exact Nat.le_refl _)⟩⟩
theorem Try.infoStrG : (Try.prog.info? 9).map (fun i => (i.zero, i.size, i.bytes)) = some (some (.string ⟨#[]⟩), 1, 16) := by kernel_rfl
theorem Try.infoFlowG : (Try.prog.info? 40).map (fun i => (i.zero, i.size, i.bytes)) = some (some (.agg #[.string ⟨#[]⟩, .string ⟨#[]⟩, .string ⟨#[]⟩, .string ⟨#[]⟩]), 4, 64) := by kernel_rfl
/-- The item that is being made: its own block, its participants', its message flows' row. -/
structure TI (w : World) (t pa pb : ByteArray) (lp : Bool) (fl : List ByteArray) (vF : Value) (gI gP : Nat) (W : World) : Prop where
  hI : w.heap.size + 2 ≤ gI
  hP : w.heap.size + 2 ≤ gP
  bI : Blk W gI 33 #[.int .i64 3, .string t, .string pa, .slice (some ⟨gP, 0, none⟩) 2 2, vF, .bool lp, .string ⟨#[]⟩, .slice none 0 0, .slice none 0 0, .slice none 0 0]
  bP : Blk W gP 9 #[.string pa, .string pb]
  oF : W.ownsRow (w.heap.size + 2) 9 1 vF fl.length (fl.map .string)
theorem TI.below {w W W2 : World} {t pa pb : ByteArray} {lp : Bool} {fl : List ByteArray} {vF : Value} {gI gP : Nat} (h : TI w t pa pb lp fl vF gI gP W) (hb : Below W.heap.size W W2) : TI w t pa pb lp fl vF gI gP W2 :=
  ⟨h.hI, h.hP, h.bI.below hb h.bI.lt, h.bP.below hb h.bP.lt, own_below h.oF hb⟩
/-- A block of a maker's is written. -/
theorem TI.grown {w W W2 : World} {t pa pb : ByteArray} {lp : Bool} {fl : List ByteArray} {vF : Value} {gI gP g : Nat} {cs : Array Value} (h : TI w t pa pb lp fl vF gI gP W) (hg : W.grownBy W2 (some g)) (hm : Blk W g 89 cs) : TI w t pa pb lp fl vF gI gP W2 := by
  have ne : ∀ {b t : Nat} {cs : Array Value}, Blk W b t cs → t ≠ 89 → some b ≠ some g := fun hb ht e => by
    injection e with e
    subst e
    have := hb.symm.trans hm
    injection this with this
    injection this with _ h1
    exact ht h1
  exact ⟨h.hI, h.hP, h.bI.grown hg (ne h.bI (by decide)), h.bP.grown hg (ne h.bP (by decide)), h.oF.kept hg (.inr (blk_own_ne h.oF hm (by decide)))⟩
theorem rdl_strs {w : World} : ∀ l : List ByteArray, RdL w (l.flatMap strC) (l.map .string)
  | [] => rdl_nil.2 rfl
  | x :: l => by
    rw [List.flatMap_cons, List.map_cons]
    exact rdl_cons.2 ⟨_, _, rfl, rd_str.2 rfl, rdl_strs l⟩
theorem rd_nilG {w : World} {e sz : Nat} : Rd w (.sl e sz 0 []) (.slice none 0 0) := rd_sl.2 ⟨none, 0, [], rfl, World.ownsRow_nil _ _ _ _, rdl_nil.2 rfl⟩
/-- What the item reads as. -/
theorem TI.item {w W : World} {t pa pb : ByteArray} {lp : Bool} {fl : List ByteArray} {AF : Option Addr} {cF gI gP : Nat} (h : TI w t pa pb lp fl (.slice AF fl.length cF) gI gP W) : ItemR W ⟨3, t, pa, [pa, pb], fl, lp, ⟨#[]⟩, [], [], []⟩ #[.int .i64 3, .string t, .string pa, .slice (some ⟨gP, 0, none⟩) 2 2, .slice AF fl.length cF, .bool lp, .string ⟨#[]⟩, .slice none 0 0, .slice none 0 0, .slice none 0 0] := by
  refine ⟨some ⟨gP, 0, none⟩, 2, AF, cF, none, 0, none, 0, none, 0, rfl, ?_⟩
  refine rd_itemC.2 ⟨_, _, _, _, _, rfl, ?_, ?_, rd_nilG, rd_nilG, rd_nilG⟩
  · exact rd_sl.2 ⟨_, _, _, rfl, own_mono (own_blkG (n := 2) h.bP (by decide) rfl (Nat.zero_le _)) (Nat.zero_le _), rdl_strs [pa, pb]⟩
  · exact rd_sl.2 ⟨_, _, _, rfl, own_mono h.oF (Nat.zero_le _), rdl_strs fl⟩
/-- Message flows that are being made. -/
structure FL (w : World) (l : List FlowD) (A : Option Addr) (c : Nat) (W : World) : Prop where
  row : ∃ cells, W.ownsRow (w.heap.size + 2) 40 4 (.slice A l.length c) l.length cells ∧ RdL W (l.flatMap flowC) cells
theorem flow_flat (l : List FlowD) : flatL (l.flatMap flowC) := flatL_flat (fun x => by unfold flowC; simp [flatL]) l
theorem FL.below {w W W2 : World} {l : List FlowD} {A : Option Addr} {c : Nat} (h : FL w l A c W) (hb : Below W.heap.size W W2) : FL w l A c W2 := by
  obtain ⟨cells, h1, h2⟩ := h.row
  exact ⟨cells, own_below h1 hb, RdL.flat (flow_flat l) h2⟩
theorem FL.grown {w W W2 : World} {l : List FlowD} {A : Option Addr} {c g : Nat} {cs : Array Value} (h : FL w l A c W) (hg : W.grownBy W2 (some g)) (hm : Blk W g 89 cs) : FL w l A c W2 := by
  obtain ⟨cells, h1, h2⟩ := h.row
  exact ⟨cells, h1.kept hg (.inr (blk_own_ne h1 hm (by decide))), RdL.flat (flow_flat l) h2⟩
theorem FL.rd {w W : World} {l : List FlowD} {A : Option Addr} {c : Nat} (h : FL w l A c W) : Rd W (flowsD l) (.slice A l.length c) := by
  obtain ⟨cells, h1, h2⟩ := h.row
  exact rd_sl.2 ⟨_, _, _, rfl, own_mono h1 (Nat.zero_le _), h2⟩
theorem gmsg_at (x : Nat) : (#[Value.string ⟨#[109, 97]⟩, .string ⟨#[109, 98]⟩, .string ⟨#[109, 99]⟩] : Array Value)[x / 256 % 16 % 3]? = some (.string (gmsg x)) := by
  unfold gmsg
  have : x / 256 % 16 % 3 = 0 ∨ x / 256 % 16 % 3 = 1 ∨ x / 256 % 16 % 3 = 2 := by omega
  rcases this with h | h | h <;> rw [h] <;> rfl
theorem ret_task {W : World} {g : Nat} {v0 v1 v2 v3 v4 v5 v6 v7 x : Value} {tmps : Array Value} (h : Blk W g 89 #[v0, v1, v2, v3, v4, v5, v6, v7]) (ht : tmps.getD 5 undef = .pointer (some ⟨g, 0, none⟩)) (hx : tmps.getD 4 undef = x) :
    (results Try.f77 tmps).run Try.prog W = .ok (.tuple #[x, .agg #[v0, v1, v2, v3, v4, v5, v6, v7]]) W := by
  have x0 : W.cell? ⟨g, 0, none⟩ = some v0 := h.cell 0
  have x1 : W.cell? ⟨g, 1, none⟩ = some v1 := h.cell 1
  have x2 : W.cell? ⟨g, 2, none⟩ = some v2 := h.cell 2
  have x3 : W.cell? ⟨g, 3, none⟩ = some v3 := h.cell 3
  have x4 : W.cell? ⟨g, 4, none⟩ = some v4 := h.cell 4
  have x5 : W.cell? ⟨g, 5, none⟩ = some v5 := h.cell 5
  have x6 : W.cell? ⟨g, 6, none⟩ = some v6 := h.cell 6
  have x7 : W.cell? ⟨g, 7, none⟩ = some v7 := h.cell 7
  simp [results, Try.results77, go_sem, ht, hx, x0, x1, x2, x3, x4, x5, x6, x7, -Array.getD_eq_getD_getElem?]
end Go.Proofs.Yteoioboiniealaa
