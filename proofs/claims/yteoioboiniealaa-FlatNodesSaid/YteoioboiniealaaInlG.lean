/- What is said of items and call of inline; the contract of call. -/
import Derived.Test.YteoioboiniealaaClone
import Derived.Test.YteoioboiniealaaReg
import Derived.Deep.DeepCutAuto
import Derived.Deep.RegionHeld3
namespace Go.Proofs.Yteoioboiniealaa
open Go.RowKit
attribute [local go_sem ↓] Go.wp_at_zero Go.wp_at_succ

def SmallS (x : SeqD) : Prop := x.id.size ≤ 1000 ∧ x.src.size ≤ 1000 ∧ x.dst.size ≤ 1000
mutual
/-- Texts and lists within are short enough to be joined. -/
def smallI : ItemD → Prop
  | ⟨_, id, _, parts, flows, _, _, maps, items, seqs⟩ => id.size ≤ 1000 ∧ parts.length ≤ 1000000 ∧ flows.length ≤ 1000000 ∧ (∀ f ∈ flows, f.size ≤ 1000) ∧ maps.length ≤ 1000000 ∧ items.length ≤ 1000000 ∧ smallL items ∧ seqs.length ≤ 1000000 ∧ ∀ s ∈ seqs, SmallS s
def smallL : List ItemD → Prop
  | [] => True
  | x :: l => smallI x ∧ smallL l
end
structure SmallC (c : ChorD) : Prop where
  flows : c.flows.length ≤ 1000000
  ids : ∀ f ∈ c.flows, f.id.size ≤ 1000
  nitems : c.items.length ≤ 1000000
  items : smallL c.items
  nseqs : c.seqs.length ≤ 1000000
  seqs : ∀ s ∈ c.seqs, SmallS s
def ItemsEnd (B : Nat) (w : World) (m : Nat) (vM vC : Value) (its : List ItemD) (s' : MkS) (e : Ending) (w' : World) : Prop :=
  ∃ v, e = .returned v ∧ RdP (fun b => w.heap.size ≤ b) w' (itemsD its) v ∧ MkSt w' m B vM vC s' ∧ Mk B w w'
def CallEnd (B : Nat) (w : World) (m : Nat) (vM vC : Value) (y : ItemD) (s' : MkS) (e : Ending) (w' : World) : Prop :=
  ∃ vI vS, e = .returned (.agg #[.int .i64 7, .string y.id, .string ⟨#[]⟩, .slice none 0 0, .slice none 0 0, .bool false, .string ⟨#[]⟩, .slice none 0 0, vI, vS]) ∧ y = ⟨7, y.id, ⟨#[]⟩, [], [], false, ⟨#[]⟩, [], y.items, y.seqs⟩ ∧
    RdP (fun b => w.heap.size ≤ b) w' (itemsD y.items) vI ∧ RdP (fun b => w.heap.size ≤ b) w' (seqsD y.seqs) vS ∧ MkSt w' m B vM vC s' ∧ Mk B w w'
def ItemsOK (d : DocD) (f : Nat) : Prop := ∀ (w0 w : World) (m : Nat) (vM vC vl vms vop : Value) (p : ByteArray) (ms : List MapD) (op : List ByteArray) (l : List ItemD) (s s' : MkS) (its : List ItemD),
  Below w0.heap.size w0 w → Rd w0 (chorsD d.chors) vC → Rd w0 (itemsD l) vl → Rd w (mapsD ms) vms → Rd w (strsD op) vop → MkSt w m w0.heap.size vM vC s → itemsF d f p ms op l s = some (its, s') →
  smallL l → l.length ≤ 1000000 → p.size + f * 2000 ≤ 1000000 → op.length + f ≤ 1000000 → s'.n ≤ 1000000 → 0 ≤ s.n → s'.flows.length ≤ 1000000 →
  Calls Try.prog 48 #[.pointer (some ⟨m, 0, none⟩), .string p, vl, vms, vop] w (ItemsEnd w0.heap.size w m vM vC its s')
def CallOK (d : DocD) (f : Nat) : Prop := ∀ (w0 w : World) (m : Nat) (vM vC vP vF vMp vI vS vms vop : Value) (p : ByteArray) (ms : List MapD) (op : List ByteArray) (x y : ItemD) (s s' : MkS),
  Below w0.heap.size w0 w → Rd w0 (chorsD d.chors) vC → Rd w (mapsD x.maps) vMp → Rd w (mapsD ms) vms → Rd w (strsD op) vop → MkSt w m w0.heap.size vM vC s → callG d (itemsF d f) p ms op s x = some (y, s') →
  x.id.size ≤ 1000 → x.maps.length ≤ 1000000 → p.size + (f + 1) * 2000 ≤ 1000000 → op.length + (f + 1) ≤ 1000000 → s'.n ≤ 1000000 → 0 ≤ s.n → s'.flows.length ≤ 1000000 →
  Calls Try.prog 71 #[.pointer (some ⟨m, 0, none⟩), .string p, .agg #[.int .i64 x.kind, .string x.id, .string x.first, vP, vF, .bool x.loop, .string x.called, vMp, vI, vS], vms, vop] w (CallEnd w0.heap.size w m vM vC y s')

/-- What call knows of memory. -/
structure CallW (B : Nat) (w : World) (c7 c11 : Array Value) (W : World) : Prop where
  mk_ : Mk B w W
  b7 : Blk W w.heap.size 33 c7
  b10 : Blk W (w.heap.size + 1) 33 #[.int .i64 0, .string ⟨#[]⟩, .string ⟨#[]⟩, .slice none 0 0, .slice none 0 0, .bool false, .string ⟨#[]⟩, .slice none 0 0, .slice none 0 0, .slice none 0 0]
  b11 : Blk W (w.heap.size + 1 + 1) 33 c11
theorem CallW.step {B : Nat} {w W W1 : World} {c7 c11 : Array Value} (h : CallW B w c7 c11 W) (k : Mk B W W1) : CallW B w c7 c11 W1 :=
  ⟨h.mk_.trans k, h.b7.mk_ k (by decide) (by decide), h.b10.mk_ k (by decide) (by decide), h.b11.mk_ k (by decide) (by decide)⟩
def c7v (x : ItemD) (vP vF vMp vI vS : Value) : Array Value := #[.int .i64 x.kind, .string x.id, .string x.first, vP, vF, .bool x.loop, .string x.called, vMp, vI, vS]
def c11v (q : ByteArray) (vI vS : Value) : Array Value := #[.int .i64 7, .string q, .string ⟨#[]⟩, .slice none 0 0, .slice none 0 0, .bool false, .string ⟨#[]⟩, .slice none 0 0, vI, vS]
theorem rd_nil_items {w : World} {S : Nat → Prop} : RdP S w (itemsD []) (.slice none 0 0) := rdp_sl.2 ⟨none, 0, [], rfl, World.ownsRow_nil _ _ _ _, fun b hb => by simp [Value.ownBlock] at hb, rdpl_nil.2 rfl⟩
theorem rd_nil_seqs {w : World} {S : Nat → Prop} : RdP S w (seqsD []) (.slice none 0 0) := rdp_sl.2 ⟨none, 0, [], rfl, World.ownsRow_nil _ _ _ _, fun b hb => by simp [Value.ownBlock] at hb, rdpl_nil.2 rfl⟩
theorem wrong_mk {w : World} {m B : Nat} {vM vC : Value} {s : MkS} (x : Int) (h : MkSt w m B vM vC s) :
    Calls Try.prog 70 #[.pointer (some ⟨m, 0, none⟩), .int .i64 x] w fun r w' => r = .returned (.tuple #[]) ∧ MkSt w' m B vM vC (wrongS s x) ∧ Mk B w w' := by
  obtain ⟨⟨vF, h1, h2⟩, h3⟩ := h
  refine (wrong_any x h1).mono ?_
  rintro e w' ⟨rfl, hb, hg⟩
  have hne : vF.ownBlock ≠ some m := blk_own_ne h2 h1 (by decide)
  refine ⟨rfl, ⟨⟨vF, hb, h2.kept hg (.inr hne)⟩, h3⟩, ?_⟩
  refine ⟨hg.os, hg.tape, hg.output, hg.size, fun b hb' => ?_, fun b cs t fr hb' h4 h5 => ?_⟩
  · rcases Nat.lt_or_ge b w.heap.size with hl | hl
    · exact hg.block b hl (fun e => by injection e with e; omega)
    · exfalso; have := h1.lt; omega
  · refine (hg.block b (heap_lt hb') (fun e => ?_)).trans hb'
    injection e with e
    subst e
    unfold Blk at h1
    rw [hb'] at h1
    injection h1 with h1
    injection h1 with _ ht _
    exact h5 ht
theorem MkSt.new_ {w w1 : World} {m B g : Nat} {vM vC : Value} {s : MkS} {t : TypeId} {cs : Array Value} (h : MkSt w m B vM vC s) (hg : w.grownBy w1 (some g)) (hb : Blk w g t cs) (h1 : t ≠ 40 := by decide) (h2 : t ≠ 108 := by decide) : MkSt w1 m B vM vC s := by
  obtain ⟨⟨vF, h3, h4⟩, h5⟩ := h
  refine ⟨⟨vF, h3.grown hg (fun e => ?_), h4.kept hg (.inr (blk_own_ne h4 hb (Ne.symm h1)))⟩, h5⟩
  injection e with e
  subst e
  unfold Blk at h3 hb
  rw [h3] at hb
  injection hb with hb
  injection hb with _ ht _
  exact h2 ht.symm
theorem MkSt.cells {w : World} {m B : Nat} {vM vC : Value} {s : MkS} (h : MkSt w m B vM vC s) : ∃ vF, w.cell? ⟨m, 0, none⟩ = some vM ∧ w.cell? ⟨m, 1, none⟩ = some vC ∧ w.cell? ⟨m, 2, none⟩ = some vF ∧ w.cell? ⟨m, 3, none⟩ = some (.int .i64 s.n) ∧ w.cell? ⟨m, 4, none⟩ = some (.int .i64 s.e) ∧ m < w.heap.size := by
  obtain ⟨⟨vF, h1, h2⟩, h3⟩ := h
  exact ⟨vF, h1.cell 0, h1.cell 1, h1.cell 2, h1.cell 3, h1.cell 4, h1.lt⟩

theorem findFrom_in {α : Type} (p : α → Bool) : ∀ (l : List α) (j : Nat), ¬ findFrom p l j < 0 → ∃ i, i < l.length ∧ findFrom p l j = ((j + i : Nat) : Int)
  | [], j, h => absurd (show findFrom p [] j < 0 by unfold findFrom; omega) h
  | x :: l, j, h => by
    unfold findFrom at h ⊢
    split
    · exact ⟨0, by simp, by simp⟩
    · rename_i hx
      rw [if_neg hx] at h
      obtain ⟨i, hi, he⟩ := findFrom_in p l (j + 1) h
      exact ⟨i + 1, by simpa using hi, by rw [he]; congr 1; omega⟩
/-- Cells of a block stored one behind the other. -/
def setAll (w : World) (g : Nat) : Nat → List Value → World
  | _, [] => w
  | i, v :: vs => setAll (w.setCell ⟨g, i, none⟩ v) g (i + 1) vs
theorem setAll_blk {t : TypeId} {g : Nat} : ∀ (vs : List Value) (i : Nat) (w : World) (cs : Array Value), Blk w g t cs → i + vs.length = cs.size → Blk (setAll w g i vs) g t (cs.toList.take i ++ vs).toArray
  | [], i, w, cs, h, hl => by
    have : cs.toList.take i = cs.toList := List.take_of_length_le (by simp at hl ⊢; omega)
    simp only [setAll, this, List.append_nil]
    exact h
  | v :: vs, i, w, cs, h, hl => by
    have hl' : i < cs.size := by simp at hl; omega
    have h1 := setAll_blk vs (i + 1) (w.setCell ⟨g, i, none⟩ v) (cs.setIfInBounds i v) (h.set_ i v) (by simp at hl ⊢; omega)
    have e : (cs.setIfInBounds i v).toList.take (i + 1) ++ vs = cs.toList.take i ++ v :: vs := by
      rw [Array.toList_setIfInBounds, List.take_succ_eq_append_getElem (by simpa using hl'), List.take_set_of_le (Nat.le_refl _)]
      simp
    rw [e] at h1
    exact h1
theorem setAll_size : ∀ (vs : List Value) (i : Nat) (w : World) (g : Nat), (setAll w g i vs).heap.size = w.heap.size
  | [], _, _, _ => rfl
  | v :: vs, i, w, g => by
    rw [setAll, setAll_size vs]
    simp [World.setCell]
theorem Mk.setAll_ {B : Nat} {w : World} {g : Nat} (hg : w.heap.size ≤ g) (hB : B ≤ w.heap.size) : ∀ (vs : List Value) (i : Nat) (W : World), Mk B w W → Mk B w (setAll W g i vs)
  | [], _, _, h => h
  | v :: vs, i, _, h => Mk.setAll_ hg hB vs (i + 1) _ (h.setNew v (p := ⟨g, i, none⟩) hg hB)
theorem setAll_heap {g : Nat} : ∀ (vs : List Value) (i : Nat) (w : World) (b : Nat), b ≠ g → (setAll w g i vs).heap[b]? = w.heap[b]?
  | [], _, _, _, _ => rfl
  | v :: vs, i, w, b, hb => (setAll_heap vs (i + 1) _ b hb).trans (Below.heap_setCell w ⟨g, i, none⟩ v b hb)
/-- A store into a new block leaves data as they are. -/
theorem setAll_grown {g : Nat} (vs : List Value) (w : World) : w.grownBy (setAll w g 0 vs) (some g) := by
  have h : ∀ (vs : List Value) (i : Nat) (w : World), (setAll w g i vs).os = w.os ∧ (setAll w g i vs).tape = w.tape ∧ (setAll w g i vs).output = w.output := by
    intro vs
    induction vs with
    | nil => intro i w; exact ⟨rfl, rfl, rfl⟩
    | cons v vs ih => intro i w; exact ih (i + 1) _
  exact ⟨(h vs 0 w).1, (h vs 0 w).2.1, (h vs 0 w).2.2, by rw [setAll_size]; exact Nat.le_refl _, fun i _ hne => setAll_heap vs 0 w i (fun e => hne (by rw [e]))⟩
theorem ret_call {W : World} {g : Nat} {v0 v1 v2 v3 v4 v5 v6 v7 v8 v9 : Value} {tmps : Array Value} (h : Blk W g 33 #[v0, v1, v2, v3, v4, v5, v6, v7, v8, v9]) (ht : tmps.getD 10 undef = .pointer (some ⟨g, 0, none⟩)) :
    (results Try.f71 tmps).run Try.prog W = .ok (.agg #[v0, v1, v2, v3, v4, v5, v6, v7, v8, v9]) W := by
  have x0 : W.cell? ⟨g, 0, none⟩ = some v0 := h.cell 0
  have x1 : W.cell? ⟨g, 1, none⟩ = some v1 := h.cell 1
  have x2 : W.cell? ⟨g, 2, none⟩ = some v2 := h.cell 2
  have x3 : W.cell? ⟨g, 3, none⟩ = some v3 := h.cell 3
  have x4 : W.cell? ⟨g, 4, none⟩ = some v4 := h.cell 4
  have x5 : W.cell? ⟨g, 5, none⟩ = some v5 := h.cell 5
  have x6 : W.cell? ⟨g, 6, none⟩ = some v6 := h.cell 6
  have x7 : W.cell? ⟨g, 7, none⟩ = some v7 := h.cell 7
  have x8 : W.cell? ⟨g, 8, none⟩ = some v8 := h.cell 8
  have x9 : W.cell? ⟨g, 9, none⟩ = some v9 := h.cell 9
  simp [results, Try.results71, go_sem, ht, x0, x1, x2, x3, x4, x5, x6, x7, x8, x9, -Array.getD_eq_getD_getElem?]

/-- What call knows of memory behind the maps: the block of the choreography, the maps, the maker. -/
structure CallX (B : Nat) (w : World) (c7 c11 : Array Value) (g13 : Nat) (c13 : Array Value) (al : List MapD) (r3 : Value) (m : Nat) (vM vC : Value) (s : MkS) (W : World) : Prop where
  cw : CallW B w c7 c11 W
  b13 : Blk W g13 28 c13
  al_ : Rd W (mapsD al) r3
  st : MkSt W m B vM vC s
section
variable {B : Nat} {w W W1 : World} {c7 c11 c13 : Array Value} {g13 m : Nat} {al : List MapD} {r3 vM vC : Value} {s s1 : MkS}
theorem CallX.step (h : CallX B w c7 c11 g13 c13 al r3 m vM vC s W) (k : Mk B W W1) (hs : MkSt W1 m B vM vC s1) : CallX B w c7 c11 g13 c13 al r3 m vM vC s1 W1 :=
  ⟨h.cw.step k, h.b13.mk_ k (by decide) (by decide), Rd.mk_ k _ _ (fm_maps al) h.al_, hs⟩
theorem CallX.lt (h : CallX B w c7 c11 g13 c13 al r3 m vM vC s W) : w.heap.size ≤ W.heap.size := h.cw.mk_.size
theorem CallX.below (h : CallX B w c7 c11 g13 c13 al r3 m vM vC s W) (k : Below W.heap.size W W1) (hB : B ≤ w.heap.size) : CallX B w c7 c11 g13 c13 al r3 m vM vC s W1 :=
  h.step (Mk.of_below k (Nat.le_trans hB h.lt)) (h.st.below k)
end
theorem below_step {A B C : World} (h : Below A.heap.size A B) (k : Below B.heap.size B C) : Below A.heap.size A C := h.trans (k.mono h.size)
theorem below_alloc {A B : World} (h : Below A.heap.size A B) (o : Obj) : Below A.heap.size A (B.alloc o) := h.alloc h.size o
/-- A message flow more. -/
theorem flow_step {w5 w6 : World} {m B gA capA : Nat} {vM vC vF : Value} {s : MkS} {fl : FlowD} {o : Obj} (hb : Blk w5 m 108 (mkC vM vC vF s.n s.e)) (hB : B ≤ m) (hB2 : B ≤ w5.heap.size)
    (hown : w5.ownsRow B 40 4 vF s.flows.length (s.flows.flatMap flowV))
    (hown6 : w6.ownsRow B 40 4 (.slice (some ⟨gA, 0, none⟩) (s.flows.length + 1) capA) (s.flows.length + 1) (s.flows.flatMap flowV ++ flowV fl))
    (hgrow : (w5.alloc o).grownBy w6 vF.ownBlock) (hat : vF.ownBlock = some gA ∨ gA = w5.heap.size + 1) :
    MkSt (w6.setCell ⟨m, 2, none⟩ (.slice (some ⟨gA, 0, none⟩) (s.flows.length + 1) capA)) m B vM vC ⟨s.flows ++ [fl], s.n, s.e⟩ ∧ Mk B w5 (w6.setCell ⟨m, 2, none⟩ (.slice (some ⟨gA, 0, none⟩) (s.flows.length + 1) capA)) := by
  have hne : vF.ownBlock ≠ some m := blk_own_ne hown hb (by decide)
  have hb6 : Blk w6 m 108 (mkC vM vC vF s.n s.e) := (hb.alloc o).grown hgrow (Ne.symm hne)
  have hgm : gA ≠ m := by
    rcases hat with h | h
    · intro e; exact hne (by rw [h, e])
    · have := hb.lt; omega
  refine ⟨⟨⟨_, hb6.set_ 2 _, ?_⟩, hB⟩, ?_⟩
  · have e : (s.flows ++ [fl]).length = s.flows.length + 1 := by simp
    have e2 : (s.flows ++ [fl]).flatMap flowV = s.flows.flatMap flowV ++ flowV fl := by simp
    rw [show (⟨s.flows ++ [fl], s.n, s.e⟩ : MkS).flows = s.flows ++ [fl] from rfl, e, e2]
    exact ownsRow_setCell_other hown6 (by show some gA ≠ some m; simpa using hgm) _
  · exact (((Mk.refl B w5).alloc o hB2).flows (hown.alloc o) hgrow (Nat.le_refl _) hB2).setCell _ hB hb6 (.inr rfl)
/-- What holds at each round's head of call's first loop. -/
def InFl (B : Nat) (w : World) (c7 c11 : Array Value) (g13 : Nat) (c13 : Array Value) (al : List MapD) (r3 : Value) (m : Nat) (vM vC : Value) (s : MkS) (q : ByteArray) (fl : List FlowD) (iv : Value) (wr : World) : Prop :=
  ∃ j : Nat, j ≤ fl.length ∧ iv = .int .i64 j ∧ CallX B w c7 c11 g13 c13 al r3 m vM vC ⟨s.flows ++ (fl.take j).map (flowF q al), s.n, s.e⟩ wr
/-- .. and of its second one. -/
def InEn (B : Nat) (w : World) (c7 c11 : Array Value) (g13 : Nat) (c13 : Array Value) (al : List MapD) (r3 : Value) (m : Nat) (vM vC : Value) (s : MkS) (l : List ItemD) (nv iv : Value) (wr : World) : Prop :=
  ∃ j : Nat, j ≤ l.length ∧ iv = .int .i64 j ∧ nv = .int .i64 (((l.take j).filter fun y => y.kind == 2).length : Nat) ∧ CallX B w c7 c11 g13 c13 al r3 m vM vC s wr
theorem Try.infoFlow : (Try.prog.info? 40).map (fun i => (i.zero, i.size, i.bytes)) = some (some (.agg #[.string ⟨#[]⟩, .string ⟨#[]⟩, .string ⟨#[]⟩, .string ⟨#[]⟩]), 4, 64) := by kernel_rfl

/-- Behind the items of what is called. -/
def Aft25 (B : Nat) (w : World) (q0 : ByteArray) (g13 : Nat) (c13 : Array Value) (m : Nat) (vM vC : Value) (its : List ItemD) (s' : MkS) (N : Nat) (wx : World) : Prop :=
  ∃ A7 c7, Mk B w wx ∧ Blk wx (w.heap.size + 1) 33 #[.int .i64 0, .string ⟨#[]⟩, .string ⟨#[]⟩, .slice none 0 0, .slice none 0 0, .bool false, .string ⟨#[]⟩, .slice none 0 0, .slice none 0 0, .slice none 0 0] ∧ Blk wx (w.heap.size + 1 + 1) 33 (c11v q0 (.slice A7 its.length c7) (.slice none 0 0)) ∧ Blk wx g13 28 c13 ∧
    MkSt wx m B vM vC s' ∧ RdP (fun b => N ≤ b) wx (itemsD its) (.slice A7 its.length c7) ∧ N ≤ wx.heap.size
theorem rd_strs_snoc {w4 w6 : World} {op : List ByteArray} {xc : List Value} {s : ByteArray} {base gA capA : Nat} (ho : w6.ownsRow base 9 1 (.slice (some ⟨gA, 0, none⟩) (op.length + 1) capA) (op.length + 1) (xc ++ [.string s])) (hl : RdL w4 (op.flatMap strC) xc) : Rd w6 (strsD (op ++ [s])) (.slice (some ⟨gA, 0, none⟩) (op.length + 1) capA) := by
  have h : ∀ (l : List ByteArray) (xs : List Value), RdL w4 (l.flatMap strC) xs → RdL w6 (l.flatMap strC) xs := by
    intro l
    induction l with
    | nil => intro xs h; exact rdl_nil.2 (rdl_nil.1 h)
    | cons a l ih =>
      intro xs h
      rw [List.flatMap_cons] at h ⊢
      obtain ⟨v, r, rfl, hv, hr⟩ := rdl_cons.1 h
      exact rdl_cons.2 ⟨v, r, rfl, rd_str.2 (rd_str.1 hv), ih r hr⟩
  refine rd_sl.2 ⟨some ⟨gA, 0, none⟩, capA, xc ++ [.string s], by simp, ?_, ?_⟩
  · have := own_mono ho (Nat.zero_le _)
    simpa using this
  · rw [List.flatMap_append]
    exact RdL.append (h op xc hl) (rdl_cons.2 ⟨_, _, rfl, rd_str.2 rfl, rdl_nil.2 rfl⟩)

end Go.Proofs.Yteoioboiniealaa
