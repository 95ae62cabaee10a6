/- The contract of (*inline.maker).items. -/
import Derived.Test.YteoioboiniealaaInlG
namespace Go.Proofs.Yteoioboiniealaa
open Go.RowKit
attribute [local go_sem ↓] Go.wp_at_zero Go.wp_at_succ

theorem oneG_grows (d : DocD) (f : Nat) (p : ByteArray) (ms : List MapD) (op : List ByteArray) (s : MkS) (x y : ItemD) (s' : MkS) (h : oneG d (itemsF d f) p ms op s x = some (y, s')) : Grows s s' := by
  unfold oneG at h
  split at h
  · exact callG_grows (itemsF_grows d f) s x y s' h
  · split at h
    · cases h
    · rename_i q hq
      injection h with h
      injection h with _ h
      rw [← h]
      exact itemsF_grows d f _ _ _ _ _ q.1 q.2 hq
theorem itemsG_step {one : MkS → ItemD → Option (ItemD × MkS)} {x : ItemD} {l its out : List ItemD} {s s' : MkS} (ho : ∀ s x y s', one s x = some (y, s') → Grows s s') (h : itemsG one (x :: l) s out = some (its, s')) (he : (stepS s).e = 0) :
    ∃ y s4, one (stepS s) x = some (y, s4) ∧ itemsG one l s4 (out ++ [y]) = some (its, s') ∧ Grows (stepS s) s4 ∧ Grows s4 s' := by
  rw [itemsG_go he] at h
  rcases hy : one (stepS s) x with _ | ⟨y, s4⟩
  · rw [hy] at h; cases h
  · rw [hy] at h
    exact ⟨y, s4, rfl, h, ho _ _ _ _ hy, itemsG_grows ho l s4 _ _ _ h⟩
/-- What items knows of memory. -/
structure ItW (B : Nat) (w : World) (m : Nat) (vM vC : Value) (outl : List ItemD) (cells : List Value) (ov : Value) (s : MkS) (W : World) : Prop where
  mk_ : Mk B w W
  st : MkSt W m B vM vC s
  own : W.ownsRow w.heap.size 33 10 ov outl.length cells
  rd : RdPL (fun b => w.heap.size ≤ b ∧ ov.ownBlock ≠ some b) W (outl.flatMap itemC) cells
theorem fmL_flat (l : List ItemD) : fmL (l.flatMap itemC) := fm_flat fm_item l
section
variable {B : Nat} {w W W1 : World} {m : Nat} {vM vC ov : Value} {outl : List ItemD} {cells : List Value} {s s1 : MkS}
theorem ItW.step (h : ItW B w m vM vC outl cells ov s W) (k : Mk B W W1) (hs : MkSt W1 m B vM vC s1) : ItW B w m vM vC outl cells ov s1 W1 :=
  ⟨h.mk_.trans k, hs, own_mk h.own k (by decide) (by decide), RdPL.mk_ k _ _ (fmL_flat outl) h.rd⟩
theorem ItW.below (h : ItW B w m vM vC outl cells ov s W) (k : Below W.heap.size W W1) (hB : B ≤ w.heap.size) : ItW B w m vM vC outl cells ov s W1 :=
  h.step (Mk.of_below k (Nat.le_trans hB h.mk_.size)) (h.st.below k)
theorem Mk.belowAt (h : Mk B w W) (k : Below w.heap.size W W1) (hB : B ≤ w.heap.size) : Mk B w W1 :=
  ⟨k.os.trans h.os, k.tape.trans h.tape, k.output.trans h.output, Nat.le_trans h.size k.size, fun b hb => (k.block b (Nat.lt_of_lt_of_le hb hB)).trans (h.low b hb), fun b cs t fr hb h1 h2 => (k.block b (heap_lt hb)).trans (h.typ b cs t fr hb h1 h2)⟩
theorem MkSt.grown {base e size n : Nat} {v : Value} {xs : List Value} (h : MkSt W m B vM vC s) (ho : W.ownsRow base e size v n xs) (hg : W.grownBy W1 v.ownBlock) (h1 : e ≠ 40) (h2 : e ≠ 108) : MkSt W1 m B vM vC s := by
  obtain ⟨⟨vF, h3, h4⟩, h5⟩ := h
  exact ⟨⟨vF, h3.grown hg (Ne.symm (blk_own_ne ho h3 h2)), h4.kept hg (by
    cases hv : vF.ownBlock with
    | none => exact .inl rfl
    | some q => exact .inr (fun e => (own_ne h4 ho (Ne.symm h1) q hv) (by rw [← e])))⟩, h5⟩
/-- An item more. -/
theorem ItW.push {o : Obj} {y : ItemD} {vs : List Value} {gO capO : Nat} (h : ItW B w m vM vC outl cells ov s W) (hy : RdPL (fun b => w.heap.size ≤ b ∧ ov.ownBlock ≠ some b) W (itemC y) vs)
    (hown : W1.ownsRow w.heap.size 33 10 (.slice (some ⟨gO, 0, none⟩) (outl.length + 1) capO) (outl.length + 1) (cells ++ vs)) (hgrow : (W.alloc o).grownBy W1 ov.ownBlock)
    (hat : ov.ownBlock = some gO ∨ gO = W.heap.size + 1) (hB : B ≤ w.heap.size) : ItW B w m vM vC (outl ++ [y]) (cells ++ vs) (.slice (some ⟨gO, 0, none⟩) (outl.length + 1) capO) s W1 := by
  have hsz := h.mk_.size
  have ha : Below W.heap.size W (W.alloc o) := (Below.refl _ _).alloc (Nat.le_refl _) o
  have hb : Below w.heap.size W W1 := (ha.mono hsz).grown hgrow (by simp; omega) (fun k hk => (h.own.lt k hk).1)
  refine ⟨h.mk_.belowAt hb hB, ((h.st.below ha).grown (h.own.alloc o) hgrow (by decide) (by decide)), ?_, ?_⟩
  · have e : (outl ++ [y]).length = outl.length + 1 := by simp
    rw [e]
    exact hown
  · have hall : RdPL (fun b => w.heap.size ≤ b ∧ ov.ownBlock ≠ some b) W ((outl ++ [y]).flatMap itemC) (cells ++ vs) := by
      have e : (outl ++ [y]).flatMap itemC = outl.flatMap itemC ++ itemC y := by simp
      rw [e]
      exact h.rd.append hy
    refine RdPL.keep (fun b hs hl => ⟨?_, hs.1, ?_⟩) _ _ hall
    · exact (hgrow.block b (by simp; omega) (fun e => hs.2 e.symm)).trans (Below.heap_alloc W o b hl)
    · show some gO ≠ some b
      intro e
      injection e with e
      rcases hat with h1 | h1
      · exact hs.2 (by rw [h1, e])
      · omega
end
theorem smallI_spec {x : ItemD} (h : smallI x) : x.id.size ≤ 1000 ∧ x.parts.length ≤ 1000000 ∧ x.flows.length ≤ 1000000 ∧ (∀ f ∈ x.flows, f.size ≤ 1000) ∧ x.maps.length ≤ 1000000 ∧ x.items.length ≤ 1000000 ∧ smallL x.items ∧ x.seqs.length ≤ 1000000 ∧ ∀ s ∈ x.seqs, SmallS s := by
  obtain ⟨kind, id, first, parts, flows, loop, called, maps, items, seqs⟩ := x
  unfold smallI at h
  exact h
/-- The maker counts one more. -/
theorem MkSt.count {w : World} {m B : Nat} {vM vC : Value} {s : MkS} (h : MkSt w m B vM vC s) (n : Int) : MkSt (w.setCell ⟨m, 3, none⟩ (.int .i64 n)) m B vM vC ⟨s.flows, n, s.e⟩ ∧ Mk B w (w.setCell ⟨m, 3, none⟩ (.int .i64 n)) := by
  obtain ⟨⟨vF, h1, h2⟩, h3⟩ := h
  refine ⟨⟨⟨vF, h1.set_ 3 _, ?_⟩, h3⟩, (Mk.refl B w).setCell _ h3 h1 (.inr rfl)⟩
  exact ownsRow_setCell_other h2 (blk_own_ne h2 h1 (by decide)) _
theorem rdpl_item {S : Nat → Prop} {w : World} {x : ItemD} {vP vF vM vI vS : Value} (h3 : RdP S w (strsD x.parts) vP) (h4 : RdP S w (strsD x.flows) vF) (h7 : RdP S w (mapsD x.maps) vM) (h8 : RdP S w (itemsD x.items) vI) (h9 : RdP S w (seqsD x.seqs) vS) :
    RdPL S w (itemC x) [.int .i64 x.kind, .string x.id, .string x.first, vP, vF, .bool x.loop, .string x.called, vM, vI, vS] := by
  rw [itemC_eq]
  exact rdpl_cons.2 ⟨_, _, rfl, rdp_int.2 rfl, rdpl_cons.2 ⟨_, _, rfl, rdp_str.2 rfl, rdpl_cons.2 ⟨_, _, rfl, rdp_str.2 rfl, rdpl_cons.2 ⟨_, _, rfl, h3, rdpl_cons.2 ⟨_, _, rfl, h4, rdpl_cons.2 ⟨_, _, rfl, rdp_bool.2 rfl, rdpl_cons.2 ⟨_, _, rfl, rdp_str.2 rfl, rdpl_cons.2 ⟨_, _, rfl, h7, rdpl_cons.2 ⟨_, _, rfl, h8, rdpl_cons.2 ⟨_, _, rfl, h9, rdpl_nil.2 rfl⟩⟩⟩⟩⟩⟩⟩⟩⟩⟩
theorem rdp_nil_maps {w : World} {S : Nat → Prop} : RdP S w (mapsD []) (.slice none 0 0) := rdp_sl.2 ⟨none, 0, [], rfl, World.ownsRow_nil _ _ _ _, fun b hb => by simp [Value.ownBlock] at hb, rdpl_nil.2 rfl⟩
theorem rdp_nil_strs {w : World} {S : Nat → Prop} : RdP S w (strsD []) (.slice none 0 0) := rdp_sl.2 ⟨none, 0, [], rfl, World.ownsRow_nil _ _ _ _, fun b hb => by simp [Value.ownBlock] at hb, rdpl_nil.2 rfl⟩
/-- What holds at each round's head. -/
def InIt (d : DocD) (f : Nat) (p : ByteArray) (ms : List MapD) (op : List ByteArray) (B : Nat) (w : World) (m : Nat) (vM vC : Value) (l its : List ItemD) (s' : MkS) (ov iv : Value) (wr : World) : Prop :=
  ∃ (j : Nat) (outl : List ItemD) (cells : List Value) (s3 : MkS), j ≤ l.length ∧ iv = .int .i64 j ∧ ItW B w m vM vC outl cells ov s3 wr ∧ Hid (itemsG (oneG d (itemsF d f) p ms op) (l.drop j) s3 outl = some (its, s')) ∧ outl.length ≤ j ∧ 0 ≤ s3.n
theorem smallL_at : ∀ (l : List ItemD) (j : Nat) (h : j < l.length), smallL l → smallI l[j]
  | x :: l, 0, _, hs => by unfold smallL at hs; exact hs.1
  | x :: l, j + 1, h, hs => by unfold smallL at hs; exact smallL_at l j (by simpa using h) hs.2
theorem Try.infoItem : (Try.prog.info? 33).map (fun i => (i.zero, i.size, i.bytes)) = some (some (.agg #[.int .i64 0, .string ⟨#[]⟩, .string ⟨#[]⟩, .slice none 0 0, .slice none 0 0, .bool false, .string ⟨#[]⟩, .slice none 0 0, .slice none 0 0, .slice none 0 0]), 10, 184) := by kernel_rfl
/-- An item that is being made, in block g14, behind what lies in it. -/
structure NewV (B N m g13 g14 : Nat) (c13 : Array Value) (vM vC : Value) (s5 : MkS) (q : ByteArray) (kind : Int) (first : ByteArray) (loop : Bool) (its1 : List ItemD) (sq : List SeqD) (v8 v9 : Value) (pl fl : List ByteArray) (wc : World) (vP vF : Value) (W : World) : Prop where
  mk_ : Mk B wc W
  st : MkSt W m B vM vC s5
  b13 : Blk W g13 33 c13
  b14 : Blk W g14 33 #[.int .i64 kind, .string q, .string first, vP, vF, .bool loop, .string ⟨#[]⟩, .slice none 0 0, v8, v9]
  oP : W.ownsRow N 9 1 vP pl.length (pl.map .string)
  oF : W.ownsRow N 9 1 vF fl.length (fl.map .string)
  ne : ∀ g, vF.ownBlock = some g → vP.ownBlock ≠ some g
  hN : N ≤ g14
  h13 : g13 < N
  hwc : wc.heap.size = N
  hB : B ≤ N
  r8 : RdP (fun b => N ≤ b ∧ b ≠ g14 ∧ vP.ownBlock ≠ some b ∧ vF.ownBlock ≠ some b) W (itemsD its1) v8
  r9 : RdP (fun b => N ≤ b ∧ b ≠ g14 ∧ vP.ownBlock ≠ some b ∧ vF.ownBlock ≠ some b) W (seqsD sq) v9
section
variable {B N m g13 g14 : Nat} {c13 : Array Value} {vM vC : Value} {s5 : MkS} {q : ByteArray} {kind : Int} {first : ByteArray} {loop : Bool} {its1 : List ItemD} {sq : List SeqD} {v8 v9 : Value} {pl fl : List ByteArray} {wc W W4 : World} {vP vF : Value}
theorem NewV.below (h : NewV B N m g13 g14 c13 vM vC s5 q kind first loop its1 sq v8 v9 pl fl wc vP vF W) (k : Below W.heap.size W W4) : NewV B N m g13 g14 c13 vM vC s5 q kind first loop its1 sq v8 v9 pl fl wc vP vF W4 :=
  ⟨h.mk_.below k (by rw [h.hwc]; exact h.hB), h.st.below k, h.b13.below k h.b13.lt, h.b14.below k h.b14.lt, own_below h.oP k, own_below h.oF k, h.ne, h.hN, h.h13, h.hwc, h.hB, h.r8.below k, h.r9.below k⟩
theorem NewV.part {o : Obj} {s : ByteArray} {gA capA : Nat} (h : NewV B N m g13 g14 c13 vM vC s5 q kind first loop its1 sq v8 v9 pl fl wc vP vF W)
    (hown : W4.ownsRow N 9 1 (Value.slice (some ⟨gA, 0, none⟩) (pl.length + 1) capA) (pl.length + 1) (pl.map .string ++ [.string s])) (hgrow : (W.alloc o).grownBy W4 vP.ownBlock) (hat : vP.ownBlock = some gA ∨ gA = W.heap.size + 1) :
    NewV B N m g13 g14 c13 vM vC s5 q kind first loop its1 sq v8 v9 (pl ++ [s]) fl wc (Value.slice (some ⟨gA, 0, none⟩) (pl.length + 1) capA) vF (W4.setCell ⟨g14, 3, none⟩ (Value.slice (some ⟨gA, 0, none⟩) (pl.length + 1) capA)) := by
  have ha : Below W.heap.size W (W.alloc o) := (Below.refl _ _).alloc (Nat.le_refl _) o
  have hsz := h.mk_.size
  have hwc := h.hwc
  have hlo : ∀ g, vP.ownBlock = some g → N ≤ g := fun g hg => (h.oP.lt g hg).1
  have hb : Below wc.heap.size W W4 := (ha.mono hsz).grown hgrow (by simp; omega) (fun k hk => by have := hlo k hk; omega)
  have h14 : Blk W4 g14 33 _ := (h.b14.alloc o).grown hgrow (Ne.symm (blk_own_ne h.oP h.b14 (by decide)))
  have hgA : gA ≠ g14 := fun e => (blk_own_ne hown h14 (by decide)) (by simp [Value.ownBlock, e])
  have hst4 : MkSt W4 m B vM vC s5 := ((h.st.below ha).grown (h.oP.alloc o) hgrow (by decide) (by decide))
  have hset := only_set (w := W4) (p := ⟨g14, 3, none⟩) rfl (Value.slice (some ⟨gA, 0, none⟩) (pl.length + 1) capA)
  have hoth : W4.ownsRow N 9 1 vF fl.length (fl.map .string) := (h.oF.alloc o).kept hgrow (by
    rcases hv : vF.ownBlock with _ | g
    · exact .inl rfl
    · refine .inr (fun e => ?_)
      exact h.ne g hv e.symm)
  have hk : ∀ b, (N ≤ b ∧ b ≠ g14 ∧ vP.ownBlock ≠ some b ∧ vF.ownBlock ≠ some b) → b < W.heap.size → (W4.setCell ⟨g14, 3, none⟩ (Value.slice (some ⟨gA, 0, none⟩) (pl.length + 1) capA)).heap[b]? = W.heap[b]? ∧ (N ≤ b ∧ b ≠ g14 ∧ (Value.slice (some ⟨gA, 0, none⟩) (pl.length + 1) capA).ownBlock ≠ some b ∧ (vF).ownBlock ≠ some b) := fun b hs hl => by
    have h1 := (hgrow.block b (by simp; omega) (fun e => hs.2.2.1 e.symm)).trans (Below.heap_alloc W o b hl)
    have h2 := Below.heap_setCell W4 ⟨g14, 3, none⟩ (Value.slice (some ⟨gA, 0, none⟩) (pl.length + 1) capA) b hs.2.1
    have hA : gA ≠ b := fun e => by
      rcases hat with h1 | h1
      · exact hs.2.2.1 (by rw [h1, e])
      · omega
    exact ⟨h2.trans h1, ⟨hs.1, hs.2.1, by simpa [Value.ownBlock] using hA, hs.2.2.2⟩⟩
  refine ⟨(h.mk_.belowAt hb (by rw [hwc]; exact h.hB)).setNew _ (by show wc.heap.size ≤ g14; rw [hwc]; exact h.hN) (by rw [hwc]; exact h.hB), hst4.new_ hset h14, ?_, h14.set_ 3 _, by have e : (pl ++ [s]).length = pl.length + 1 := (by simp); rw [e, List.map_append]; exact ownsRow_setCell_other hown (by simpa [Value.ownBlock] using hgA) _, ownsRow_setCell_other hoth (blk_own_ne hoth h14 (by decide)) _, ?_, h.hN, h.h13, h.hwc, h.hB, RdP.keep hk _ _ h.r8, RdP.keep hk _ _ h.r9⟩
  · exact ((h.b13.alloc o).grown hgrow (Ne.symm (blk_own_ne h.oP h.b13 (by decide)))).far (by show g13 ≠ g14; have := h.h13; have := h.hN; omega) _
  · intro g hg e
    have e1 : gA = g := by simpa [Value.ownBlock] using e
    rcases hat with h1 | h1
    · exact h.ne g hg (by rw [h1, e1])
    · have := (h.oF.lt g hg).2
      omega
theorem NewV.flow {o : Obj} {s : ByteArray} {gA capA : Nat} (h : NewV B N m g13 g14 c13 vM vC s5 q kind first loop its1 sq v8 v9 pl fl wc vP vF W)
    (hown : W4.ownsRow N 9 1 (Value.slice (some ⟨gA, 0, none⟩) (fl.length + 1) capA) (fl.length + 1) (fl.map .string ++ [.string s])) (hgrow : (W.alloc o).grownBy W4 vF.ownBlock) (hat : vF.ownBlock = some gA ∨ gA = W.heap.size + 1) :
    NewV B N m g13 g14 c13 vM vC s5 q kind first loop its1 sq v8 v9 pl (fl ++ [s]) wc vP (Value.slice (some ⟨gA, 0, none⟩) (fl.length + 1) capA) (W4.setCell ⟨g14, 4, none⟩ (Value.slice (some ⟨gA, 0, none⟩) (fl.length + 1) capA)) := by
  have ha : Below W.heap.size W (W.alloc o) := (Below.refl _ _).alloc (Nat.le_refl _) o
  have hsz := h.mk_.size
  have hwc := h.hwc
  have hlo : ∀ g, vF.ownBlock = some g → N ≤ g := fun g hg => (h.oF.lt g hg).1
  have hb : Below wc.heap.size W W4 := (ha.mono hsz).grown hgrow (by simp; omega) (fun k hk => by have := hlo k hk; omega)
  have h14 : Blk W4 g14 33 _ := (h.b14.alloc o).grown hgrow (Ne.symm (blk_own_ne h.oF h.b14 (by decide)))
  have hgA : gA ≠ g14 := fun e => (blk_own_ne hown h14 (by decide)) (by simp [Value.ownBlock, e])
  have hst4 : MkSt W4 m B vM vC s5 := ((h.st.below ha).grown (h.oF.alloc o) hgrow (by decide) (by decide))
  have hset := only_set (w := W4) (p := ⟨g14, 4, none⟩) rfl (Value.slice (some ⟨gA, 0, none⟩) (fl.length + 1) capA)
  have hoth : W4.ownsRow N 9 1 vP pl.length (pl.map .string) := (h.oP.alloc o).kept hgrow (by
    rcases hv : vP.ownBlock with _ | g
    · exact .inl rfl
    · refine .inr (fun e => ?_)
      exact h.ne g e.symm hv)
  have hk : ∀ b, (N ≤ b ∧ b ≠ g14 ∧ vP.ownBlock ≠ some b ∧ vF.ownBlock ≠ some b) → b < W.heap.size → (W4.setCell ⟨g14, 4, none⟩ (Value.slice (some ⟨gA, 0, none⟩) (fl.length + 1) capA)).heap[b]? = W.heap[b]? ∧ (N ≤ b ∧ b ≠ g14 ∧ (vP).ownBlock ≠ some b ∧ (Value.slice (some ⟨gA, 0, none⟩) (fl.length + 1) capA).ownBlock ≠ some b) := fun b hs hl => by
    have h1 := (hgrow.block b (by simp; omega) (fun e => hs.2.2.2 e.symm)).trans (Below.heap_alloc W o b hl)
    have h2 := Below.heap_setCell W4 ⟨g14, 4, none⟩ (Value.slice (some ⟨gA, 0, none⟩) (fl.length + 1) capA) b hs.2.1
    have hA : gA ≠ b := fun e => by
      rcases hat with h1 | h1
      · exact hs.2.2.2 (by rw [h1, e])
      · omega
    exact ⟨h2.trans h1, ⟨hs.1, hs.2.1, hs.2.2.1, by simpa [Value.ownBlock] using hA⟩⟩
  refine ⟨(h.mk_.belowAt hb (by rw [hwc]; exact h.hB)).setNew _ (by show wc.heap.size ≤ g14; rw [hwc]; exact h.hN) (by rw [hwc]; exact h.hB), hst4.new_ hset h14, ?_, h14.set_ 4 _, ownsRow_setCell_other hoth (blk_own_ne hoth h14 (by decide)) _, by have e : (fl ++ [s]).length = fl.length + 1 := (by simp); rw [e, List.map_append]; exact ownsRow_setCell_other hown (by simpa [Value.ownBlock] using hgA) _, ?_, h.hN, h.h13, h.hwc, h.hB, RdP.keep hk _ _ h.r8, RdP.keep hk _ _ h.r9⟩
  · exact ((h.b13.alloc o).grown hgrow (Ne.symm (blk_own_ne h.oF h.b13 (by decide)))).far (by show g13 ≠ g14; have := h.h13; have := h.hN; omega) _
  · intro g hg e
    have e1 : gA = g := by simpa [Value.ownBlock] using hg
    rcases hat with h1 | h1
    · exact h.ne gA h1 (by rw [e1]; exact e)
    · have := (h.oP.lt g e).2
      omega
end
theorem rdpl_strs {S : Nat → Prop} {w : World} : ∀ l : List ByteArray, RdPL S w (l.flatMap strC) (l.map .string)
  | [] => rdpl_nil.2 rfl
  | x :: l => by
    rw [List.flatMap_cons, List.map_cons]
    exact rdpl_cons.2 ⟨_, _, rfl, rdp_str.2 rfl, rdpl_strs l⟩
def NewI (B N m g13 g14 : Nat) (c13 : Array Value) (vM vC : Value) (s5 : MkS) (q : ByteArray) (kind : Int) (first : ByteArray) (loop : Bool) (its1 : List ItemD) (sq : List SeqD) (v8 v9 : Value) (pl fl : List ByteArray) (wc W : World) : Prop :=
  ∃ vP vF, NewV B N m g13 g14 c13 vM vC s5 q kind first loop its1 sq v8 v9 pl fl wc vP vF W
/-- .. when it has just been made. -/
def A14 (B N m g13 : Nat) (c13 : Array Value) (vM vC : Value) (s5 : MkS) (q : ByteArray) (kind : Int) (loop : Bool) (its1 : List ItemD) (sq : List SeqD) (wc : World) (v14 : Value) (W : World) : Prop :=
  ∃ g14 A8 k8 A9 k9, v14 = .pointer (some ⟨g14, 0, none⟩) ∧ NewV B N m g13 g14 c13 vM vC s5 q kind ⟨#[]⟩ loop its1 sq (.slice A8 its1.length k8) (.slice A9 sq.length k9) [] [] wc (.slice none 0 0) (.slice none 0 0) W
theorem newV_set {B N m g13 g14 : Nat} {c13 : Array Value} {vM vC : Value} {s5 : MkS} {q : ByteArray} {kind : Int} {loop : Bool} {its1 : List ItemD} {sq : List SeqD} {v8 v9 : Value} {wc W : World}
    (hmk : Mk B wc W) (hst : MkSt W m B vM vC s5) (h13 : Blk W g13 33 c13) (h14 : Blk W g14 33 #[.int .i64 0, .string ⟨#[]⟩, .string ⟨#[]⟩, .slice none 0 0, .slice none 0 0, .bool false, .string ⟨#[]⟩, .slice none 0 0, .slice none 0 0, .slice none 0 0]) (hN : N ≤ g14) (hg : g13 < N) (hwc : wc.heap.size = N) (hB : B ≤ N)
    (h8 : RdP (fun b => N ≤ b ∧ b ≠ g14) W (itemsD its1) v8) (h9 : RdP (fun b => N ≤ b ∧ b ≠ g14) W (seqsD sq) v9) :
    NewV B N m g13 g14 c13 vM vC s5 q kind ⟨#[]⟩ loop its1 sq v8 v9 [] [] wc (.slice none 0 0) (.slice none 0 0) (setAll W g14 0 [.int .i64 kind, .string q, .string ⟨#[]⟩, .slice none 0 0, .slice none 0 0, .bool loop, .string ⟨#[]⟩, .slice none 0 0, v8, v9]) := by
  have hgr := setAll_grown (g := g14) [.int .i64 kind, .string q, .string ⟨#[]⟩, .slice none 0 0, .slice none 0 0, .bool loop, .string ⟨#[]⟩, .slice none 0 0, v8, v9] W
  have hk : ∀ b, (N ≤ b ∧ b ≠ g14) → b < W.heap.size → (setAll W g14 0 [.int .i64 kind, .string q, .string ⟨#[]⟩, .slice none 0 0, .slice none 0 0, .bool loop, .string ⟨#[]⟩, .slice none 0 0, v8, v9]).heap[b]? = W.heap[b]? ∧ (N ≤ b ∧ b ≠ g14 ∧ (Value.slice none 0 0).ownBlock ≠ some b ∧ (Value.slice none 0 0).ownBlock ≠ some b) :=
    fun b hs hl => ⟨hgr.block b hl (fun e => hs.2 (by injection e)), hs.1, hs.2, by simp [Value.ownBlock], by simp [Value.ownBlock]⟩
  exact ⟨hmk.setAll_ (by omega) (by omega) _ _, hst.new_ hgr h14, h13.grown hgr (fun e => by injection e with e; omega), setAll_blk _ 0 W _ h14 rfl, World.ownsRow_nil _ _ _ _, World.ownsRow_nil _ _ _ _, fun g hg => by simp [Value.ownBlock] at hg, hN, hg, hwc, hB, RdP.keep hk _ _ h8, RdP.keep hk _ _ h9⟩
theorem newV_alloc {B N m g13 : Nat} {c13 : Array Value} {vM vC : Value} {s5 : MkS} {q : ByteArray} {kind : Int} {loop : Bool} {its1 : List ItemD} {sq : List SeqD} {v8 v9 : Value} {wc W : World}
    (hmk : Mk B wc W) (hst : MkSt W m B vM vC s5) (h13 : Blk W g13 33 c13) (hg : g13 < N) (hwc : wc.heap.size = N) (hB : B ≤ N)
    (h8 : RdP (fun b => N ≤ b) W (itemsD its1) v8) (h9 : RdP (fun b => N ≤ b) W (seqsD sq) v9) :
    NewV B N m g13 W.heap.size c13 vM vC s5 q kind ⟨#[]⟩ loop its1 sq v8 v9 [] [] wc (.slice none 0 0) (.slice none 0 0) (W.alloc (.cells #[.int .i64 kind, .string q, .string ⟨#[]⟩, .slice none 0 0, .slice none 0 0, .bool loop, .string ⟨#[]⟩, .slice none 0 0, v8, v9] 33)) := by
  have hsz := hmk.size
  have hk : ∀ b, N ≤ b → b < W.heap.size → (W.alloc (.cells #[.int .i64 kind, .string q, .string ⟨#[]⟩, .slice none 0 0, .slice none 0 0, .bool loop, .string ⟨#[]⟩, .slice none 0 0, v8, v9] 33)).heap[b]? = W.heap[b]? ∧ (N ≤ b ∧ b ≠ W.heap.size ∧ (Value.slice none 0 0).ownBlock ≠ some b ∧ (Value.slice none 0 0).ownBlock ≠ some b) :=
    fun b hs hl => ⟨Below.heap_alloc W _ b hl, hs, by omega, by simp [Value.ownBlock], by simp [Value.ownBlock]⟩
  exact ⟨hmk.alloc _ (by omega), hst.below ((Below.refl _ _).alloc (Nat.le_refl _) _), h13.alloc _, Blk.new _ _ _, World.ownsRow_nil _ _ _ _, World.ownsRow_nil _ _ _ _, fun g hg => by simp [Value.ownBlock] at hg, by omega, hg, hwc, hB, RdP.keep hk _ _ h8, RdP.keep hk _ _ h9⟩
theorem NewV.setFirst {B N m g13 g14 : Nat} {c13 : Array Value} {vM vC : Value} {s5 : MkS} {q : ByteArray} {kind : Int} {first : ByteArray} {loop : Bool} {its1 : List ItemD} {sq : List SeqD} {v8 v9 : Value} {pl fl : List ByteArray} {wc W : World} {vP vF : Value} (s : ByteArray)
    (h : NewV B N m g13 g14 c13 vM vC s5 q kind first loop its1 sq v8 v9 pl fl wc vP vF W) : NewV B N m g13 g14 c13 vM vC s5 q kind s loop its1 sq v8 v9 pl fl wc vP vF (W.setCell ⟨g14, 2, none⟩ (.string s)) := by
  have hset := only_set (w := W) (p := ⟨g14, 2, none⟩) rfl (.string s)
  have hk : ∀ b, (N ≤ b ∧ b ≠ g14 ∧ vP.ownBlock ≠ some b ∧ vF.ownBlock ≠ some b) → b < W.heap.size → (W.setCell ⟨g14, 2, none⟩ (.string s)).heap[b]? = W.heap[b]? ∧ (N ≤ b ∧ b ≠ g14 ∧ vP.ownBlock ≠ some b ∧ vF.ownBlock ≠ some b) :=
    fun b hs _ => ⟨Below.heap_setCell W ⟨g14, 2, none⟩ _ b hs.2.1, hs⟩
  exact ⟨h.mk_.setNew _ (by show wc.heap.size ≤ g14; rw [h.hwc]; exact h.hN) (by rw [h.hwc]; exact h.hB), h.st.new_ hset h.b14, h.b13.far (by show g13 ≠ g14; have := h.h13; have := h.hN; omega) _, h.b14.set_ 2 _, ownsRow_setCell_other h.oP (blk_own_ne h.oP h.b14 (by decide)) _, ownsRow_setCell_other h.oF (blk_own_ne h.oF h.b14 (by decide)) _, h.ne, h.hN, h.h13, h.hwc, h.hB, RdP.keep hk _ _ h.r8, RdP.keep hk _ _ h.r9⟩
/-- What holds at the heads of the loops over participants, and over message flows. -/
def InPa (B N m g13 g14 : Nat) (c13 : Array Value) (vM vC : Value) (s5 : MkS) (q : ByteArray) (kind : Int) (first : ByteArray) (loop : Bool) (its1 : List ItemD) (sq : List SeqD) (v8 v9 : Value) (l : List ByteArray) (F : ByteArray → ByteArray) (wc : World) (iv : Value) (W : World) : Prop :=
  ∃ i : Nat, i ≤ l.length ∧ iv = .int .i64 i ∧ NewI B N m g13 g14 c13 vM vC s5 q kind first loop its1 sq v8 v9 ((l.take i).map F) [] wc W
def InFs (B N m g13 g14 : Nat) (c13 : Array Value) (vM vC : Value) (s5 : MkS) (q : ByteArray) (kind : Int) (first : ByteArray) (loop : Bool) (its1 : List ItemD) (sq : List SeqD) (v8 v9 : Value) (pl l : List ByteArray) (F : ByteArray → ByteArray) (wc : World) (iv : Value) (W : World) : Prop :=
  ∃ i : Nat, i ≤ l.length ∧ iv = .int .i64 i ∧ NewI B N m g13 g14 c13 vM vC s5 q kind first loop its1 sq v8 v9 pl ((l.take i).map F) wc W
theorem Try.infoStrI : (Try.prog.info? 9).map (fun i => (i.zero, i.size, i.bytes)) = some (some (.string ⟨#[]⟩), 1, 16) := by kernel_rfl

set_option maxRecDepth 100000 in
set_option maxHeartbeats 8000000 in
theorem items_ok (d : DocD) (f : Nat) (hI : ItemsOK d f) (hCall : CallOK d f) : ItemsOK d (f + 1) := by
  intro w0 w m vM vC vl vms vop p ms op l s s' its hb0 hC hL hms hop hst hF hsm hll hp hol hn hn0 hfl
  obtain ⟨i0, hi0, hz0, hz1, hz2⟩ := info_parts Try.infoItem
  obtain ⟨AL, cL, rfl, hlc, hcm, hatL⟩ := rd_at itemC_len hL
  unfold maxLen at hcm
  have hF1 : itemsG (oneG d (itemsF d f) p ms op) l s [] = some (its, s') := hF
  have HATL := Lib.hid hatL
  have HC := Lib.hid hC
  have HMS := Lib.hid hms
  have HOP := Lib.hid hop
  have HST := Lib.hid hst
  have HF := Lib.hid hF1
  have HB0 := Lib.hid hb0
  have hsz0 := hb0.size
  have HI := Lib.hid hI
  have HCA := Lib.hid hCall
  have HSM := Lib.hid hsm
  have hlen : its.length ≤ l.length := by have := itemsG_len _ _ _ _ _ hF1; simpa using this
  clear hL hatL hC hms hop hst hF hF1 hb0 hI hCall hsm
  go_enter Try.func48, Try.ntmps48
  go_wp2_with fail
  go_loopw [11, 21] (fun ov iv wr => InIt d f p ms op w0.heap.size w m vM vC l its s' ov iv wr) (fun _ iv _ => l.length - (intOf iv).toNat)
  case atStart => exact ⟨0, [], [], s, Nat.zero_le _, rfl, ⟨Mk.refl _ _, HST.out, World.ownsRow_nil _ _ _ _, rdpl_nil.2 rfl⟩, HF.out, Nat.le_refl _, hn0⟩
  case round =>
    obtain ⟨j, outl, cells, s3, hj, rfl, hX, hG, holen, hn3⟩ := hrel
    have HX := Lib.hid hX
    clear hX
    by_cases hlt : j < l.length
    · obtain ⟨b, vs, rfl, hbl, _, hvs, hcell⟩ := HATL.out j hlt
      obtain ⟨x, hx⟩ : ∃ x, x = l[j] := ⟨_, rfl⟩
      have hG2 := hG.out
      rw [List.drop_eq_getElem_cons hlt, ← hx] at hG2
      have hsx := smallL_at l j hlt HSM.out
      rw [← hx] at hvs hsx
      obtain ⟨v3, v4, v7, v8, v9, rfl, h3, h4, h7, h8, h9⟩ := rd_itemC.1 hvs
      have H3 := Lib.hid h3
      have H4 := Lib.hid h4
      have H7 := Lib.hid h7
      have H8 := Lib.hid h8
      have H9 := Lib.hid h9
      obtain ⟨A3, k3, _, rfl, _, _⟩ := rd_sl.1 h3
      obtain ⟨A4, k4, _, rfl, _, _⟩ := rd_sl.1 h4
      obtain ⟨A7, k7, _, rfl, _, _⟩ := rd_sl.1 h7
      obtain ⟨A8, k8, _, rfl, _, _⟩ := rd_sl.1 h8
      obtain ⟨A9, k9, _, rfl, _, _⟩ := rd_sl.1 h9
      have hb0r : Below w0.heap.size w0 wr := HB0.out.trans HX.out.mk_.to_below
      have e0 : wr.cell? ⟨b, j * 10, none⟩ = some (.int .i64 x.kind) := (hb0r.cell (p := ⟨b, j * 10, none⟩) hbl).trans (hcell 0 (by omega))
      have e1 : wr.cell? ⟨b, j * 10 + 1, none⟩ = some (.string x.id) := (hb0r.cell (p := ⟨b, j * 10 + 1, none⟩) hbl).trans (hcell 1 (by omega))
      have e2 : wr.cell? ⟨b, j * 10 + 2, none⟩ = some (.string x.first) := (hb0r.cell (p := ⟨b, j * 10 + 2, none⟩) hbl).trans (hcell 2 (by omega))
      have e3 : wr.cell? ⟨b, j * 10 + 3, none⟩ = some (.slice A3 x.parts.length k3) := (hb0r.cell (p := ⟨b, j * 10 + 3, none⟩) hbl).trans (hcell 3 (by omega))
      have e4 : wr.cell? ⟨b, j * 10 + 4, none⟩ = some (.slice A4 x.flows.length k4) := (hb0r.cell (p := ⟨b, j * 10 + 4, none⟩) hbl).trans (hcell 4 (by omega))
      have e5 : wr.cell? ⟨b, j * 10 + 5, none⟩ = some (.bool x.loop) := (hb0r.cell (p := ⟨b, j * 10 + 5, none⟩) hbl).trans (hcell 5 (by omega))
      have e6 : wr.cell? ⟨b, j * 10 + 6, none⟩ = some (.string x.called) := (hb0r.cell (p := ⟨b, j * 10 + 6, none⟩) hbl).trans (hcell 6 (by omega))
      have e7 : wr.cell? ⟨b, j * 10 + 7, none⟩ = some (.slice A7 x.maps.length k7) := (hb0r.cell (p := ⟨b, j * 10 + 7, none⟩) hbl).trans (hcell 7 (by omega))
      have e8 : wr.cell? ⟨b, j * 10 + 8, none⟩ = some (.slice A8 x.items.length k8) := (hb0r.cell (p := ⟨b, j * 10 + 8, none⟩) hbl).trans (hcell 8 (by omega))
      have e9 : wr.cell? ⟨b, j * 10 + 9, none⟩ = some (.slice A9 x.seqs.length k9) := (hb0r.cell (p := ⟨b, j * 10 + 9, none⟩) hbl).trans (hcell 9 (by omega))
      obtain ⟨vFl, m0, m1, m2, m3, m4, hml⟩ := HX.out.st.cells
      have fm3 : wr.frozen? ⟨m, 3, none⟩ = false := HX.out.st.row.choose_spec.1.frozen 3
      have hgr3 : s3.n ≤ s'.n := (itemsG_grows (oneG_grows d f p ms op) _ _ _ _ _ hG2).1
      have HG2 := Lib.hid hG2
      have HSX := Lib.hid hsx
      have HB0R := Lib.hid hb0r
      clear hvs hcell hx hG2 hG hsx hb0r h3 h4 h7 h8 h9 m0 m1 m2 m4
      go_upto_if 36 with fail
      obtain ⟨W2, hW2⟩ : ∃ W, W = (wr.setCell ⟨m, 3, none⟩ (.int .i64 (s3.n + 1))).alloc (.cells #[.int .i64 x.kind, .string x.id, .string x.first, .slice A3 x.parts.length k3, .slice A4 x.flows.length k4, .bool x.loop, .string x.called, .slice A7 x.maps.length k7, .slice A8 x.items.length k8, .slice A9 x.seqs.length k9] 33) := ⟨_, rfl⟩
      obtain ⟨hs2, hk2⟩ := HX.out.st.count (s3.n + 1)
      have hXa := HX.out.step hk2 hs2
      have hX2 := hXa.below ((Below.refl _ _).alloc (Nat.le_refl _) (.cells #[.int .i64 x.kind, .string x.id, .string x.first, .slice A3 x.parts.length k3, .slice A4 x.flows.length k4, .bool x.loop, .string x.called, .slice A7 x.maps.length k7, .slice A8 x.items.length k8, .slice A9 x.seqs.length k9] 33)) hsz0
      have hB13 : Blk W2 wr.heap.size 33 #[.int .i64 x.kind, .string x.id, .string x.first, .slice A3 x.parts.length k3, .slice A4 x.flows.length k4, .bool x.loop, .string x.called, .slice A7 x.maps.length k7, .slice A8 x.items.length k8, .slice A9 x.seqs.length k9] := by
        rw [hW2]
        have := Blk.new (wr.setCell ⟨m, 3, none⟩ (.int .i64 (s3.n + 1))) 33 #[.int .i64 x.kind, .string x.id, .string x.first, .slice A3 x.parts.length k3, .slice A4 x.flows.length k4, .bool x.loop, .string x.called, .slice A7 x.maps.length k7, .slice A8 x.items.length k8, .slice A9 x.seqs.length k9]
        simpa [World.setCell] using this
      rw [← hW2] at hX2
      rw [← hW2]
      have hsz2 : wr.heap.size < W2.heap.size := hB13.lt
      generalize hg13 : wr.heap.size = g13 at *
      have HX2 := Lib.hid hX2
      have HB13 := Lib.hid hB13
      clear hW2 hXa hs2 hk2 hX2 hB13 m3 fm3 e0 e1 e2 e3 e4 e5 e6 e7 e8 e9 HX
      go_cut [] (fun wx => ItW w0.heap.size w m vM vC outl cells u11 (stepS s3) wx ∧ Blk wx g13 33 #[.int .i64 x.kind, .string x.id, .string x.first, .slice A3 x.parts.length k3, .slice A4 x.flows.length k4, .bool x.loop, .string x.called, .slice A7 x.maps.length k7, .slice A8 x.items.length k8, .slice A9 x.seqs.length k9])
      case first =>
        by_cases h400 : 400 < s3.n + 1
        · have e : stepS s3 = wrongS ⟨s3.flows, s3.n + 1, s3.e⟩ 5 := by unfold stepS wrongS; rw [if_pos h400]
          have HE := Lib.hid e
          clear e
          go_wp2_with fail
          refine (wrong_mk 5 HX2.out.st).mono ?_
          rintro e w2 ⟨rfl, hst2, hmk2⟩
          have hX3 := HX2.out.step hmk2 hst2
          have hB3 := HB13.out.mk_ hmk2 (by decide) (by decide)
          rw [← HE.out] at hX3
          have HX4 := Lib.hid hX3
          have HB4 := Lib.hid hB3
          clear hX3 hst2 hmk2 hB3
          go_wp2_with fail
          go_meet
          case rel => exact ⟨HX4.out, HB4.out⟩
        · have e : stepS s3 = ⟨s3.flows, s3.n + 1, s3.e⟩ := by unfold stepS; rw [if_neg h400]
          have hX3 := HX2.out
          rw [← e] at hX3
          have HX4 := Lib.hid hX3
          clear hX3 e
          go_wp2_with fail
          go_meet
          case rel => exact ⟨HX4.out, HB13.out⟩
      case rest =>
        obtain ⟨wd, rfl⟩ : ∃ wd, wd = wc := ⟨_, rfl⟩
        obtain ⟨hX3, hB3⟩ := hcut
        obtain ⟨s4, hs4⟩ : ∃ s4, s4 = stepS s3 := ⟨_, rfl⟩
        rw [← hs4] at hX3
        have hG3 := HG2.out
        have hn4 : 0 ≤ s4.n := by rw [hs4]; unfold stepS; show 0 ≤ s3.n + 1; omega
        have hszc := hX3.mk_.size
        have hgc := hB3.lt
        obtain ⟨vFl, m0, m1, m2, m3, m4, hml⟩ := hX3.st.cells
        have HX3 := Lib.hid hX3
        have HB3 := Lib.hid hB3
        have HS4 := Lib.hid hs4
        clear m0 m1 m2 m3 hX3 hB3
        by_cases he : s4.e = 0
        · obtain ⟨y, s5, hone, hG4, hgr1, hgr2⟩ := itemsG_step (oneG_grows d f p ms op) hG3 (by rw [← hs4]; exact he)
          rw [← hs4] at hone hgr1
          have heb : (s4.e != 0) = false := by simp [he]
          have hb5 : s5.n ≤ 1000000 := by have := hgr2.1; omega
          have hb6 : s5.flows.length ≤ 1000000 := by have := hgr2.2; omega
          have hn5 : 0 ≤ s5.n := by have := hgr1.1; omega
          have HG4 := Lib.hid hG4
          clear hs4 hG3 he hgr1 hgr2 hG4
          obtain ⟨q1, q2, q3, q4, q5, q6, q7, q8, q9⟩ := smallI_spec HSX.out
          have Q4 := Lib.hid q4
          have Q7 := Lib.hid q7
          have Q9 := Lib.hid q9
          clear q4 q7 q9
          by_cases hk8 : x.kind = 8
          · unfold oneG at hone
            rw [if_pos hk8] at hone
            have hkb : (x.kind == 8) = true := by simp [hk8]
            have HONE := Lib.hid hone
            clear hone hk8
            have c0 : wd.cell? ⟨g13, 0, none⟩ = some (.int .i64 x.kind) := HB3.out.cell 0
            have c1 : wd.cell? ⟨g13, 1, none⟩ = some (.string x.id) := HB3.out.cell 1
            have c2 : wd.cell? ⟨g13, 2, none⟩ = some (.string x.first) := HB3.out.cell 2
            have c3 : wd.cell? ⟨g13, 3, none⟩ = some (.slice A3 x.parts.length k3) := HB3.out.cell 3
            have c4 : wd.cell? ⟨g13, 4, none⟩ = some (.slice A4 x.flows.length k4) := HB3.out.cell 4
            have c5 : wd.cell? ⟨g13, 5, none⟩ = some (.bool x.loop) := HB3.out.cell 5
            have c6 : wd.cell? ⟨g13, 6, none⟩ = some (.string x.called) := HB3.out.cell 6
            have c7 : wd.cell? ⟨g13, 7, none⟩ = some (.slice A7 x.maps.length k7) := HB3.out.cell 7
            have c8 : wd.cell? ⟨g13, 8, none⟩ = some (.slice A8 x.items.length k8) := HB3.out.cell 8
            have c9 : wd.cell? ⟨g13, 9, none⟩ = some (.slice A9 x.seqs.length k9) := HB3.out.cell 9
            go_wp2_with fail
            refine (HCA.out w0 wd m vM _ _ _ _ _ _ vms vop p ms op x y s4 s5 (HB0.out.trans HX3.out.mk_.to_below) HC.out (Rd.below (HB0.out.trans HX3.out.mk_.to_below) _ _ H7.out) (Rd.mk_ HX3.out.mk_ _ _ (fm_maps ms) HMS.out) (Rd.mk_ HX3.out.mk_ _ _ (fm_strs op) HOP.out) HX3.out.st HONE.out q1 q5 hp hol hb5 hn4 hb6).mono ?_
            rintro e w6 ⟨vI, vS, rfl, hy, hrI, hrS, hst6, hmk6⟩
            have hX6 := HX3.out.step hmk6 hst6
            have hrow : ∀ g, u11.ownBlock = some g → g < wd.heap.size := fun g hg => (HX3.out.own.lt g hg).2
            have hyd : RdPL (fun b => w.heap.size ≤ b ∧ u11.ownBlock ≠ some b) w6 (itemC y) [.int .i64 7, .string y.id, .string ⟨#[]⟩, .slice none 0 0, .slice none 0 0, .bool false, .string ⟨#[]⟩, .slice none 0 0, vI, vS] := by
              rw [hy]
              refine rdpl_item rdp_nil_strs rdp_nil_strs rdp_nil_maps (hrI.mono fun b hb => ?_) (hrS.mono fun b hb => ?_)
              · have hb' : wd.heap.size ≤ b := hb
                exact ⟨by omega, fun e => by have := hrow b e; omega⟩
              · have hb' : wd.heap.size ≤ b := hb
                exact ⟨by omega, fun e => by have := hrow b e; omega⟩
            obtain ⟨AI, kI, _, rfl, _, _, _⟩ := rdp_sl.1 hrI
            obtain ⟨AS, kS, _, rfl, _, _, _⟩ := rdp_sl.1 hrS
            have HX6 := Lib.hid hX6
            have HYD := Lib.hid hyd
            have hsz6 := hX6.mk_.size
            clear hX6 hyd hrI hrS hst6 hmk6 hy hrow
            go_wp2_with (at_builtin; refine wpList_append_lies _ rfl (.tmp 47) (.tmp 54) _ rfl w.heap.size 33 i0 _ 10 184 Try.underlying25 hi0 hz0 hz1 hz2 rfl (by omega) u11 outl.length cells rfl (HX6.out.own.alloc _) ⟨w6.heap.size, 0, none⟩ 1 1 [.int .i64 7, .string y.id, .string ⟨#[]⟩, .slice none 0 0, .slice none 0 0, .bool false, .string ⟨#[]⟩, .slice none 0 0, .slice AI y.items.length kI, .slice AS y.seqs.length kS] rfl rfl (World.news_of_block (cs := #[.int .i64 7, .string y.id, .string ⟨#[]⟩, .slice none 0 0, .slice none 0 0, .bool false, .string ⟨#[]⟩, .slice none 0 0, .slice AI y.items.length kI, .slice AS y.seqs.length kS]) (t := 33) (fr := (0, 0)) (heap_alloc_new w6 _)) (by simp [Value.oneCell']) (by omega) (by unfold maxLen; omega) (by omega) (by simp; omega) (w6.heap.size + 1) (by simp) ?_)
            intro gO capO w7 hown7 hgrow7 hat7 hlt7
            have hX7 := HX6.out.push HYD.out hown7 hgrow7 hat7 hsz0
            have HX7 := Lib.hid hX7
            clear hX7 hown7 hgrow7 hat7
            go_wp2_with fail
            go_roundw
            case rel => exact ⟨j + 1, outl ++ [y], _, s5, by omega, by go_num, HX7.out, HG4.out, by simp; omega, hn5⟩
            case measure => simp [intOf]; omega
          · unfold oneG at hone
            rw [if_neg hk8] at hone
            obtain ⟨its1, hit, hy⟩ : ∃ its1, itemsF d f p ms op x.items s4 = some (its1, s5) ∧ itemF p ms x its1 = y := by
              revert hone
              rcases itemsF d f p ms op x.items s4 with _ | ⟨r1, r2⟩
              · intro h; cases h
              · intro h
                simp only at h
                injection h with h
                injection h with h1 h2
                rw [h2]
                exact ⟨r1, rfl, h1⟩
            obtain ⟨sq, hsq⟩ : ∃ sq, sq = x.seqs.map (seqF p) := ⟨_, rfl⟩
            have hkb : (x.kind == 8) = false := by simp [hk8]
            have HIT := Lib.hid hit
            have HY := Lib.hid hy
            have HSQ := Lib.hid hsq
            have HU : Hid (∀ U, Below wd.heap.size wd U → Below w0.heap.size w0 U ∧ Rd U (mapsD ms) vms ∧ Rd U (strsD op) vop ∧ MkSt U m w0.heap.size vM vC s4) := fun U hb => by
              have hm := HX3.out.mk_.below hb hsz0
              exact ⟨HB0.out.trans hm.to_below, Rd.mk_ hm _ _ (fm_maps ms) HMS.out, Rd.mk_ hm _ _ (fm_strs op) HOP.out, HX3.out.st.below hb⟩
            clear hit hy hsq hone hk8
            have c0 : wd.cell? ⟨g13, 0, none⟩ = some (.int .i64 x.kind) := HB3.out.cell 0
            have hqx : ∀ W, (Op.stringOp .add p x.id).run Try.prog W = .ok (.string (p ++ x.id)) W := fun W => run_string_add_sum W _ _ (by omega)
            go_upto_region 12 with fail
            go_cut [14] (fun v14 wx => A14 w0.heap.size wd.heap.size m g13 #[.int .i64 x.kind, .string x.id, .string x.first, .slice A3 x.parts.length k3, .slice A4 x.flows.length k4, .bool x.loop, .string x.called, .slice A7 x.maps.length k7, .slice A8 x.items.length k8, .slice A9 x.seqs.length k9] vM vC s5 (p ++ x.id) x.kind x.loop its1 sq wd v14 wx)
            case first =>
              refine wp_region_HT 21 (fun V => Blk V g13 33 #[.int .i64 x.kind, .string x.id, .string x.first, .slice A3 x.parts.length k3, .slice A4 x.flows.length k4, .bool x.loop, .string x.called, .slice A7 x.maps.length k7, .slice A8 x.items.length k8, .slice A9 x.seqs.length k9]) (by kernel_rfl) (by decide) (HB3.out) (fun hHeld => ?_)
              refine ht_take 0 (v := ?vi_1) rfl (by kernel_rfl) (fun _ _ _ h => h) (Or.inl ⟨by rfl, ?hi_1⟩) hHeld ?ri_1
              case hi_1 => ((intro W hSw; have y0 : W.cell? ⟨g13, 0, none⟩ = some (.int .i64 x.kind) := hSw.cell 0; have y1 : W.cell? ⟨g13, 1, none⟩ = some (.string x.id) := hSw.cell 1; have y5 : W.cell? ⟨g13, 5, none⟩ = some (.bool x.loop) := hSw.cell 5; have y8 : W.cell? ⟨g13, 8, none⟩ = some (.slice A8 x.items.length k8) := hSw.cell 8; have y9 : W.cell? ⟨g13, 9, none⟩ = some (.slice A9 x.seqs.length k9) := hSw.cell 9; go_simp); (try (with_reducible rfl)))
              try simp only [Act.put, List.setIfInBounds_toArray, List.set_cons_zero, List.set_cons_succ]
              refine ht_take 1 (v := ?vi_2) rfl (by kernel_rfl) (fun _ _ _ h => h) (Or.inl ⟨by rfl, ?hi_2⟩) hHeld ?ri_2
              case hi_2 => ((intro W hSw; have y0 : W.cell? ⟨g13, 0, none⟩ = some (.int .i64 x.kind) := hSw.cell 0; have y1 : W.cell? ⟨g13, 1, none⟩ = some (.string x.id) := hSw.cell 1; have y5 : W.cell? ⟨g13, 5, none⟩ = some (.bool x.loop) := hSw.cell 5; have y8 : W.cell? ⟨g13, 8, none⟩ = some (.slice A8 x.items.length k8) := hSw.cell 8; have y9 : W.cell? ⟨g13, 9, none⟩ = some (.slice A9 x.seqs.length k9) := hSw.cell 9; go_simp); (try (with_reducible rfl)))
              try simp only [Act.put, List.setIfInBounds_toArray, List.set_cons_zero, List.set_cons_succ]
              refine ht_take 2 (v := ?vi_3) rfl (by kernel_rfl) (fun _ _ _ h => h) (Or.inl ⟨by rfl, ?hi_3⟩) hHeld ?ri_3
              case hi_3 => ((intro W hSw; have y0 : W.cell? ⟨g13, 0, none⟩ = some (.int .i64 x.kind) := hSw.cell 0; have y1 : W.cell? ⟨g13, 1, none⟩ = some (.string x.id) := hSw.cell 1; have y5 : W.cell? ⟨g13, 5, none⟩ = some (.bool x.loop) := hSw.cell 5; have y8 : W.cell? ⟨g13, 8, none⟩ = some (.slice A8 x.items.length k8) := hSw.cell 8; have y9 : W.cell? ⟨g13, 9, none⟩ = some (.slice A9 x.seqs.length k9) := hSw.cell 9; go_simp); (try (with_reducible rfl)))
              try simp only [Act.put, List.setIfInBounds_toArray, List.set_cons_zero, List.set_cons_succ]
              refine ht_take 3 (v := ?vi_4) rfl (by kernel_rfl) (fun _ _ _ h => h) (Or.inl ⟨by rfl, ?hi_4⟩) hHeld ?ri_4
              case hi_4 => ((intro W hSw; have y0 : W.cell? ⟨g13, 0, none⟩ = some (.int .i64 x.kind) := hSw.cell 0; have y1 : W.cell? ⟨g13, 1, none⟩ = some (.string x.id) := hSw.cell 1; have y5 : W.cell? ⟨g13, 5, none⟩ = some (.bool x.loop) := hSw.cell 5; have y8 : W.cell? ⟨g13, 8, none⟩ = some (.slice A8 x.items.length k8) := hSw.cell 8; have y9 : W.cell? ⟨g13, 9, none⟩ = some (.slice A9 x.seqs.length k9) := hSw.cell 9; go_simp); (try (with_reducible rfl)))
              try simp only [Act.put, List.setIfInBounds_toArray, List.set_cons_zero, List.set_cons_succ]
              refine ht_take 4 (v := ?vi_5) rfl (by kernel_rfl) (fun _ _ _ h => h) (Or.inl ⟨by rfl, ?hi_5⟩) hHeld ?ri_5
              case hi_5 => ((intro W hSw; have y0 : W.cell? ⟨g13, 0, none⟩ = some (.int .i64 x.kind) := hSw.cell 0; have y1 : W.cell? ⟨g13, 1, none⟩ = some (.string x.id) := hSw.cell 1; have y5 : W.cell? ⟨g13, 5, none⟩ = some (.bool x.loop) := hSw.cell 5; have y8 : W.cell? ⟨g13, 8, none⟩ = some (.slice A8 x.items.length k8) := hSw.cell 8; have y9 : W.cell? ⟨g13, 9, none⟩ = some (.slice A9 x.seqs.length k9) := hSw.cell 9; go_simp); (try (with_reducible rfl)))
              try simp only [Act.put, List.setIfInBounds_toArray, List.set_cons_zero, List.set_cons_succ]
              refine ht_take 5 (v := ?vi_6) rfl (by kernel_rfl) (fun _ _ _ h => h) (Or.inl ⟨by rfl, ?hi_6⟩) hHeld ?ri_6
              case hi_6 => ((intro W hSw; have y0 : W.cell? ⟨g13, 0, none⟩ = some (.int .i64 x.kind) := hSw.cell 0; have y1 : W.cell? ⟨g13, 1, none⟩ = some (.string x.id) := hSw.cell 1; have y5 : W.cell? ⟨g13, 5, none⟩ = some (.bool x.loop) := hSw.cell 5; have y8 : W.cell? ⟨g13, 8, none⟩ = some (.slice A8 x.items.length k8) := hSw.cell 8; have y9 : W.cell? ⟨g13, 9, none⟩ = some (.slice A9 x.seqs.length k9) := hSw.cell 9; go_simp); (try (with_reducible rfl)))
              try simp only [Act.put, List.setIfInBounds_toArray, List.set_cons_zero, List.set_cons_succ]
              refine ht_take 6 (v := ?vi_7) rfl (by kernel_rfl) (fun _ _ _ h => h) (Or.inl ⟨by rfl, ?hi_7⟩) hHeld ?ri_7
              case hi_7 => ((intro W hSw; have y0 : W.cell? ⟨g13, 0, none⟩ = some (.int .i64 x.kind) := hSw.cell 0; have y1 : W.cell? ⟨g13, 1, none⟩ = some (.string x.id) := hSw.cell 1; have y5 : W.cell? ⟨g13, 5, none⟩ = some (.bool x.loop) := hSw.cell 5; have y8 : W.cell? ⟨g13, 8, none⟩ = some (.slice A8 x.items.length k8) := hSw.cell 8; have y9 : W.cell? ⟨g13, 9, none⟩ = some (.slice A9 x.seqs.length k9) := hSw.cell 9; go_simp); (try (with_reducible rfl)))
              try simp only [Act.put, List.setIfInBounds_toArray, List.set_cons_zero, List.set_cons_succ]
              refine ht_take 7 (v := ?vi_8) rfl (by kernel_rfl) (fun _ _ _ h => h) (Or.inl ⟨by rfl, ?hi_8⟩) hHeld ?ri_8
              case hi_8 => ((intro W hSw; have y0 : W.cell? ⟨g13, 0, none⟩ = some (.int .i64 x.kind) := hSw.cell 0; have y1 : W.cell? ⟨g13, 1, none⟩ = some (.string x.id) := hSw.cell 1; have y5 : W.cell? ⟨g13, 5, none⟩ = some (.bool x.loop) := hSw.cell 5; have y8 : W.cell? ⟨g13, 8, none⟩ = some (.slice A8 x.items.length k8) := hSw.cell 8; have y9 : W.cell? ⟨g13, 9, none⟩ = some (.slice A9 x.seqs.length k9) := hSw.cell 9; go_simp); (try (with_reducible rfl)))
              try simp only [Act.put, List.setIfInBounds_toArray, List.set_cons_zero, List.set_cons_succ]
              refine ht_take 8 (v := ?vi_9) rfl (by kernel_rfl) (fun _ _ _ h => h) (Or.inl ⟨by rfl, ?hi_9⟩) hHeld ?ri_9
              case hi_9 => ((intro W hSw; have y0 : W.cell? ⟨g13, 0, none⟩ = some (.int .i64 x.kind) := hSw.cell 0; have y1 : W.cell? ⟨g13, 1, none⟩ = some (.string x.id) := hSw.cell 1; have y5 : W.cell? ⟨g13, 5, none⟩ = some (.bool x.loop) := hSw.cell 5; have y8 : W.cell? ⟨g13, 8, none⟩ = some (.slice A8 x.items.length k8) := hSw.cell 8; have y9 : W.cell? ⟨g13, 9, none⟩ = some (.slice A9 x.seqs.length k9) := hSw.cell 9; go_simp); (try (with_reducible rfl)))
              try simp only [Act.put, List.setIfInBounds_toArray, List.set_cons_zero, List.set_cons_succ]
              refine ht_take 9 (v := ?vi_10) rfl (by kernel_rfl) (fun _ _ _ h => h) (Or.inl ⟨by rfl, ?hi_10⟩) hHeld ?ri_10
              case hi_10 => ((intro W hSw; have y0 : W.cell? ⟨g13, 0, none⟩ = some (.int .i64 x.kind) := hSw.cell 0; have y1 : W.cell? ⟨g13, 1, none⟩ = some (.string x.id) := hSw.cell 1; have y5 : W.cell? ⟨g13, 5, none⟩ = some (.bool x.loop) := hSw.cell 5; have y8 : W.cell? ⟨g13, 8, none⟩ = some (.slice A8 x.items.length k8) := hSw.cell 8; have y9 : W.cell? ⟨g13, 9, none⟩ = some (.slice A9 x.seqs.length k9) := hSw.cell 9; go_simp); (try (with_reducible rfl)))
              try simp only [Act.put, List.setIfInBounds_toArray, List.set_cons_zero, List.set_cons_succ]
              refine ht_take 10 (v := ?vi_11) rfl (by kernel_rfl) (fun _ _ _ h => h) (Or.inl ⟨by rfl, ?hi_11⟩) hHeld ?ri_11
              case hi_11 => ((intro W hSw; have y0 : W.cell? ⟨g13, 0, none⟩ = some (.int .i64 x.kind) := hSw.cell 0; have y1 : W.cell? ⟨g13, 1, none⟩ = some (.string x.id) := hSw.cell 1; have y5 : W.cell? ⟨g13, 5, none⟩ = some (.bool x.loop) := hSw.cell 5; have y8 : W.cell? ⟨g13, 8, none⟩ = some (.slice A8 x.items.length k8) := hSw.cell 8; have y9 : W.cell? ⟨g13, 9, none⟩ = some (.slice A9 x.seqs.length k9) := hSw.cell 9; go_simp); (try (with_reducible rfl)))
              try simp only [Act.put, List.setIfInBounds_toArray, List.set_cons_zero, List.set_cons_succ]
              refine ht_take 11 (v := ?vi_12) rfl (by kernel_rfl) (fun _ _ _ h => h) (Or.inl ⟨by rfl, ?hi_12⟩) hHeld ?ri_12
              case hi_12 => ((intro W hSw; have y0 : W.cell? ⟨g13, 0, none⟩ = some (.int .i64 x.kind) := hSw.cell 0; have y1 : W.cell? ⟨g13, 1, none⟩ = some (.string x.id) := hSw.cell 1; have y5 : W.cell? ⟨g13, 5, none⟩ = some (.bool x.loop) := hSw.cell 5; have y8 : W.cell? ⟨g13, 8, none⟩ = some (.slice A8 x.items.length k8) := hSw.cell 8; have y9 : W.cell? ⟨g13, 9, none⟩ = some (.slice A9 x.seqs.length k9) := hSw.cell 9; go_simp); (try (with_reducible rfl)))
              try simp only [Act.put, List.setIfInBounds_toArray, List.set_cons_zero, List.set_cons_succ]
              refine ht_take 12 (v := ?vi_13) rfl (by kernel_rfl) (fun _ _ _ h => h) (Or.inl ⟨by rfl, ?hi_13⟩) hHeld ?ri_13
              case hi_13 => ((intro W hSw; have y0 : W.cell? ⟨g13, 0, none⟩ = some (.int .i64 x.kind) := hSw.cell 0; have y1 : W.cell? ⟨g13, 1, none⟩ = some (.string x.id) := hSw.cell 1; have y5 : W.cell? ⟨g13, 5, none⟩ = some (.bool x.loop) := hSw.cell 5; have y8 : W.cell? ⟨g13, 8, none⟩ = some (.slice A8 x.items.length k8) := hSw.cell 8; have y9 : W.cell? ⟨g13, 9, none⟩ = some (.slice A9 x.seqs.length k9) := hSw.cell 9; go_simp); (try (with_reducible rfl)))
              try simp only [Act.put, List.setIfInBounds_toArray, List.set_cons_zero, List.set_cons_succ]
              refine ht_take 13 (v := ?vi_14) rfl (by kernel_rfl) (fun _ _ _ h => h) (Or.inl ⟨by rfl, ?hi_14⟩) hHeld ?ri_14
              case hi_14 => ((intro W hSw; have y0 : W.cell? ⟨g13, 0, none⟩ = some (.int .i64 x.kind) := hSw.cell 0; have y1 : W.cell? ⟨g13, 1, none⟩ = some (.string x.id) := hSw.cell 1; have y5 : W.cell? ⟨g13, 5, none⟩ = some (.bool x.loop) := hSw.cell 5; have y8 : W.cell? ⟨g13, 8, none⟩ = some (.slice A8 x.items.length k8) := hSw.cell 8; have y9 : W.cell? ⟨g13, 9, none⟩ = some (.slice A9 x.seqs.length k9) := hSw.cell 9; go_simp); (try (with_reducible rfl)))
              try simp only [Act.put, List.setIfInBounds_toArray, List.set_cons_zero, List.set_cons_succ]
              refine ht_take 15 (v := ?vi_15) rfl (by kernel_rfl) (fun _ _ _ h => h) (Or.inl ⟨by rfl, ?hi_15⟩) hHeld ?ri_15
              case hi_15 => ((intro W hSw; have y0 : W.cell? ⟨g13, 0, none⟩ = some (.int .i64 x.kind) := hSw.cell 0; have y1 : W.cell? ⟨g13, 1, none⟩ = some (.string x.id) := hSw.cell 1; have y5 : W.cell? ⟨g13, 5, none⟩ = some (.bool x.loop) := hSw.cell 5; have y8 : W.cell? ⟨g13, 8, none⟩ = some (.slice A8 x.items.length k8) := hSw.cell 8; have y9 : W.cell? ⟨g13, 9, none⟩ = some (.slice A9 x.seqs.length k9) := hSw.cell 9; go_simp); (try (with_reducible rfl)))
              try simp only [Act.put, List.setIfInBounds_toArray, List.set_cons_zero, List.set_cons_succ]
              refine ht_take 16 (v := ?vi_16) rfl (by kernel_rfl) (fun _ _ _ h => h) (Or.inl ⟨by rfl, ?hi_16⟩) hHeld ?ri_16
              case hi_16 => ((intro W hSw; have y0 : W.cell? ⟨g13, 0, none⟩ = some (.int .i64 x.kind) := hSw.cell 0; have y1 : W.cell? ⟨g13, 1, none⟩ = some (.string x.id) := hSw.cell 1; have y5 : W.cell? ⟨g13, 5, none⟩ = some (.bool x.loop) := hSw.cell 5; have y8 : W.cell? ⟨g13, 8, none⟩ = some (.slice A8 x.items.length k8) := hSw.cell 8; have y9 : W.cell? ⟨g13, 9, none⟩ = some (.slice A9 x.seqs.length k9) := hSw.cell 9; go_simp); (try (with_reducible rfl)))
              try simp only [Act.put, List.setIfInBounds_toArray, List.set_cons_zero, List.set_cons_succ]
              refine ht_take 17 (v := ?vi_17) rfl (by kernel_rfl) (fun _ _ _ h => h) (Or.inl ⟨by rfl, ?hi_17⟩) hHeld ?ri_17
              case hi_17 => ((intro W hSw; have y0 : W.cell? ⟨g13, 0, none⟩ = some (.int .i64 x.kind) := hSw.cell 0; have y1 : W.cell? ⟨g13, 1, none⟩ = some (.string x.id) := hSw.cell 1; have y5 : W.cell? ⟨g13, 5, none⟩ = some (.bool x.loop) := hSw.cell 5; have y8 : W.cell? ⟨g13, 8, none⟩ = some (.slice A8 x.items.length k8) := hSw.cell 8; have y9 : W.cell? ⟨g13, 9, none⟩ = some (.slice A9 x.seqs.length k9) := hSw.cell 9; go_simp); (try (with_reducible rfl)))
              try simp only [Act.put, List.setIfInBounds_toArray, List.set_cons_zero, List.set_cons_succ]
              refine wpHT_all [14, 20] (by kernel_rfl) ?_
              refine ht_cons (i := 14) rfl (fun K hK => ?_) (ht_cons (i := 20) rfl (fun K hK => ?_) (allHT.nil))
              · go_simp
                refine (HI.out w0 _ m vM vC _ vms vop p ms op x.items s4 s5 its1 (HU.out _ (by first | exact (Below.refl _ _).drew | exact ((Below.refl _ _).drew).alloc (Nat.le_refl _) _)).1 HC.out H8.out (HU.out _ (by first | exact (Below.refl _ _).drew | exact ((Below.refl _ _).drew).alloc (Nat.le_refl _) _)).2.1 (HU.out _ (by first | exact (Below.refl _ _).drew | exact ((Below.refl _ _).drew).alloc (Nat.le_refl _) _)).2.2.1 (HU.out _ (by first | exact (Below.refl _ _).drew | exact ((Below.refl _ _).drew).alloc (Nat.le_refl _) _)).2.2.2 HIT.out Q7.out q6 (by omega) (by omega) hb5 hn4 hb6).mono ?_
                rintro e w4 ⟨v8, rfl, hrd8, hst8, hmk8⟩
                have hb04 : Below w0.heap.size w0 w4 := ((HU.out _ (by first | exact (Below.refl _ _).drew | exact ((Below.refl _ _).drew).alloc (Nat.le_refl _) _)).1).trans hmk8.to_below
                obtain ⟨A8', k8', _, rfl, _, _, _⟩ := rdp_sl.1 hrd8
                go_wp2_with fail
                refine hK.out _ _ (hHeld.mk_ hmk8 (by decide) (by decide)) (fun hHeld => ?_)
                clear hK K
                try simp only [Act.put, List.setIfInBounds_toArray, List.set_cons_zero, List.set_cons_succ]
                refine wpHT_all [18, 20] (by kernel_rfl) ?_
                refine ht_cons (i := 18) rfl (fun K hK => ?_) (ht_cons (i := 20) rfl (fun K hK => ?_) (allHT.nil))
                · go_simp
                  refine (seqs_any p (by omega) (Rd.below (by first | exact hb04 | exact hb04.alloc hb04.size _) _ _ H9.out) q8 (fun y hy => by have := Q9.out y hy; unfold SmallS at this; omega)).mono ?_
                  rintro e w5 ⟨v9, rfl, hrd9, hb5'⟩
                  rw [← HSQ.out] at hrd9
                  obtain ⟨A9', k9', _, rfl, _, _, _⟩ := rdp_sl.1 hrd9
                  go_wp2_with fail
                  refine hK.out _ _ (hHeld.below hb5' hHeld.lt) (fun hHeld => ?_)
                  clear hK K
                  try simp only [Act.put, List.setIfInBounds_toArray, List.set_cons_zero, List.set_cons_succ]
                  refine ht_take 19 (v := ?vi_18) rfl (by kernel_rfl) (fun _ _ _ h => h) (Or.inl ⟨by rfl, ?hi_18⟩) hHeld ?ri_18
                  case hi_18 => ((intro W hSw; have y0 : W.cell? ⟨g13, 0, none⟩ = some (.int .i64 x.kind) := hSw.cell 0; have y1 : W.cell? ⟨g13, 1, none⟩ = some (.string x.id) := hSw.cell 1; have y5 : W.cell? ⟨g13, 5, none⟩ = some (.bool x.loop) := hSw.cell 5; have y8 : W.cell? ⟨g13, 8, none⟩ = some (.slice A8 x.items.length k8) := hSw.cell 8; have y9 : W.cell? ⟨g13, 9, none⟩ = some (.slice A9 x.seqs.length k9) := hSw.cell 9; go_simp); (try (with_reducible rfl)))
                  try simp only [Act.put, List.setIfInBounds_toArray, List.set_cons_zero, List.set_cons_succ]
                  refine ht_one 20 rfl (by kernel_rfl) (fun K hK => ?_)
                  go_simp
                  refine hK.out _ _ (hHeld.alloc _) (fun hHeld => ?_)
                  clear hK K
                  try simp only [Act.put, List.setIfInBounds_toArray, List.set_cons_zero, List.set_cons_succ]
                  refine ht_done (by kernel_rfl) rfl ?_
                  have hmk4 : Mk w0.heap.size wd w4 := ((Mk.refl _ wd).drew).trans hmk8
                  have hsz4 := hmk4.size
                  have hv := newV_alloc (W := w5) (N := wd.heap.size) (m := m) (vM := vM) (vC := vC) (s5 := s5) (q := p ++ x.id) (kind := x.kind) (loop := x.loop) (hmk4.below hb5' (by omega)) (hst8.below hb5') ((HB3.out.mk_ hmk4 (by decide) (by decide)).below hb5' (HB3.out.mk_ hmk4 (by decide) (by decide)).lt) hgc rfl (by omega) (hrd8.below hb5') (hrd9.mono fun b hb => by (have h : w4.heap.size ≤ b := hb); omega)
                  go_wp2_with fail
                  go_meet
                  case rel => exact ⟨_, _, _, _, _, rfl, hv⟩
                · go_simp
                  refine hK.out _ _ (hHeld.alloc _) (fun hHeld => ?_)
                  clear hK K
                  try simp only [Act.put, List.setIfInBounds_toArray, List.set_cons_zero, List.set_cons_succ]
                  refine ht_one 18 rfl (by kernel_rfl) (fun K hK => ?_)
                  go_simp
                  refine (seqs_any p (by omega) (Rd.below (by first | exact hb04 | exact hb04.alloc hb04.size _) _ _ H9.out) q8 (fun y hy => by have := Q9.out y hy; unfold SmallS at this; omega)).mono ?_
                  rintro e w5 ⟨v9, rfl, hrd9, hb5'⟩
                  rw [← HSQ.out] at hrd9
                  obtain ⟨A9', k9', _, rfl, _, _, _⟩ := rdp_sl.1 hrd9
                  go_wp2_with fail
                  refine hK.out _ _ (hHeld.below hb5' hHeld.lt) (fun hHeld => ?_)
                  clear hK K
                  try simp only [Act.put, List.setIfInBounds_toArray, List.set_cons_zero, List.set_cons_succ]
                  refine ht_take 19 (v := ?vi_19) rfl (by kernel_rfl) (fun _ _ _ h => h) (Or.inl ⟨by rfl, ?hi_19⟩) hHeld ?ri_19
                  case hi_19 => ((intro W hSw; have y0 : W.cell? ⟨g13, 0, none⟩ = some (.int .i64 x.kind) := hSw.cell 0; have y1 : W.cell? ⟨g13, 1, none⟩ = some (.string x.id) := hSw.cell 1; have y5 : W.cell? ⟨g13, 5, none⟩ = some (.bool x.loop) := hSw.cell 5; have y8 : W.cell? ⟨g13, 8, none⟩ = some (.slice A8 x.items.length k8) := hSw.cell 8; have y9 : W.cell? ⟨g13, 9, none⟩ = some (.slice A9 x.seqs.length k9) := hSw.cell 9; go_simp); (try (with_reducible rfl)))
                  try simp only [Act.put, List.setIfInBounds_toArray, List.set_cons_zero, List.set_cons_succ]
                  refine ht_done (by kernel_rfl) rfl ?_
                  have hmk4 : Mk w0.heap.size wd w4 := ((Mk.refl _ wd).drew).trans hmk8
                  have hsz4 := hmk4.size
                  have hz14 := (Blk.new w4 33 #[.int .i64 0, .string ⟨#[]⟩, .string ⟨#[]⟩, .slice none 0 0, .slice none 0 0, .bool false, .string ⟨#[]⟩, .slice none 0 0, .slice none 0 0, .slice none 0 0]).below hb5' (Blk.new w4 _ _).lt
                  have z0 : w5.cell? ⟨w4.heap.size, 0, none⟩ = some (.int .i64 0) := hz14.cell 0
                  have z1 : w5.cell? ⟨w4.heap.size, 1, none⟩ = some (.string ⟨#[]⟩) := hz14.cell 1
                  have z2 : w5.cell? ⟨w4.heap.size, 2, none⟩ = some (.string ⟨#[]⟩) := hz14.cell 2
                  have z3 : w5.cell? ⟨w4.heap.size, 3, none⟩ = some (.slice none 0 0) := hz14.cell 3
                  have z4 : w5.cell? ⟨w4.heap.size, 4, none⟩ = some (.slice none 0 0) := hz14.cell 4
                  have z5 : w5.cell? ⟨w4.heap.size, 5, none⟩ = some (.bool false) := hz14.cell 5
                  have z6 : w5.cell? ⟨w4.heap.size, 6, none⟩ = some (.string ⟨#[]⟩) := hz14.cell 6
                  have z7 : w5.cell? ⟨w4.heap.size, 7, none⟩ = some (.slice none 0 0) := hz14.cell 7
                  have z8 : w5.cell? ⟨w4.heap.size, 8, none⟩ = some (.slice none 0 0) := hz14.cell 8
                  have z9 : w5.cell? ⟨w4.heap.size, 9, none⟩ = some (.slice none 0 0) := hz14.cell 9
                  have q0_ : w5.frozen? ⟨w4.heap.size, 0, none⟩ = false := hz14.frozen 0
                  have q1_ : w5.frozen? ⟨w4.heap.size, 1, none⟩ = false := hz14.frozen 1
                  have q2_ : w5.frozen? ⟨w4.heap.size, 2, none⟩ = false := hz14.frozen 2
                  have q3_ : w5.frozen? ⟨w4.heap.size, 3, none⟩ = false := hz14.frozen 3
                  have q4_ : w5.frozen? ⟨w4.heap.size, 4, none⟩ = false := hz14.frozen 4
                  have q5_ : w5.frozen? ⟨w4.heap.size, 5, none⟩ = false := hz14.frozen 5
                  have q6_ : w5.frozen? ⟨w4.heap.size, 6, none⟩ = false := hz14.frozen 6
                  have q7_ : w5.frozen? ⟨w4.heap.size, 7, none⟩ = false := hz14.frozen 7
                  have q8_ : w5.frozen? ⟨w4.heap.size, 8, none⟩ = false := hz14.frozen 8
                  have q9_ : w5.frozen? ⟨w4.heap.size, 9, none⟩ = false := hz14.frozen 9
                  have hv := newV_set (W := w5) (N := wd.heap.size) (g14 := w4.heap.size) (m := m) (vM := vM) (vC := vC) (s5 := s5) (q := p ++ x.id) (kind := x.kind) (loop := x.loop) ((hmk4.alloc _ (by omega)).below hb5' (by omega)) ((hst8.below ((Below.refl _ _).alloc (Nat.le_refl _) _)).below hb5') (((HB3.out.mk_ hmk4 (by decide) (by decide)).alloc _).below hb5' ((HB3.out.mk_ hmk4 (by decide) (by decide)).alloc _).lt) ((Blk.new w4 _ _).below hb5' (Blk.new w4 _ _).lt) hsz4 hgc rfl (by omega) ((RdP.keep (S' := fun b => wd.heap.size ≤ b ∧ b ≠ w4.heap.size) (fun b hs hl => ⟨Below.heap_alloc w4 _ b hl, hs, by omega⟩) _ _ hrd8).below hb5') (hrd9.mono fun b hb => by (have h : w4.heap.size + 1 ≤ b := (by simpa using hb)); omega)
                  go_wp2_with fail
                  go_meet
                  case rel => exact ⟨_, _, _, _, _, rfl, hv⟩
              · go_simp
                refine hK.out _ _ (hHeld.alloc _) (fun hHeld => ?_)
                clear hK K
                try simp only [Act.put, List.setIfInBounds_toArray, List.set_cons_zero, List.set_cons_succ]
                refine ht_one 14 rfl (by kernel_rfl) (fun K hK => ?_)
                go_simp
                refine (HI.out w0 _ m vM vC _ vms vop p ms op x.items s4 s5 its1 (HU.out _ (by first | exact (Below.refl _ _).drew | exact ((Below.refl _ _).drew).alloc (Nat.le_refl _) _)).1 HC.out H8.out (HU.out _ (by first | exact (Below.refl _ _).drew | exact ((Below.refl _ _).drew).alloc (Nat.le_refl _) _)).2.1 (HU.out _ (by first | exact (Below.refl _ _).drew | exact ((Below.refl _ _).drew).alloc (Nat.le_refl _) _)).2.2.1 (HU.out _ (by first | exact (Below.refl _ _).drew | exact ((Below.refl _ _).drew).alloc (Nat.le_refl _) _)).2.2.2 HIT.out Q7.out q6 (by omega) (by omega) hb5 hn4 hb6).mono ?_
                rintro e w4 ⟨v8, rfl, hrd8, hst8, hmk8⟩
                have hb04 : Below w0.heap.size w0 w4 := ((HU.out _ (by first | exact (Below.refl _ _).drew | exact ((Below.refl _ _).drew).alloc (Nat.le_refl _) _)).1).trans hmk8.to_below
                obtain ⟨A8', k8', _, rfl, _, _, _⟩ := rdp_sl.1 hrd8
                go_wp2_with fail
                refine hK.out _ _ (hHeld.mk_ hmk8 (by decide) (by decide)) (fun hHeld => ?_)
                clear hK K
                try simp only [Act.put, List.setIfInBounds_toArray, List.set_cons_zero, List.set_cons_succ]
                refine ht_one 18 rfl (by kernel_rfl) (fun K hK => ?_)
                go_simp
                refine (seqs_any p (by omega) (Rd.below (by first | exact hb04 | exact hb04.alloc hb04.size _) _ _ H9.out) q8 (fun y hy => by have := Q9.out y hy; unfold SmallS at this; omega)).mono ?_
                rintro e w5 ⟨v9, rfl, hrd9, hb5'⟩
                rw [← HSQ.out] at hrd9
                obtain ⟨A9', k9', _, rfl, _, _, _⟩ := rdp_sl.1 hrd9
                go_wp2_with fail
                refine hK.out _ _ (hHeld.below hb5' hHeld.lt) (fun hHeld => ?_)
                clear hK K
                try simp only [Act.put, List.setIfInBounds_toArray, List.set_cons_zero, List.set_cons_succ]
                refine ht_take 19 (v := ?vi_20) rfl (by kernel_rfl) (fun _ _ _ h => h) (Or.inl ⟨by rfl, ?hi_20⟩) hHeld ?ri_20
                case hi_20 => ((intro W hSw; have y0 : W.cell? ⟨g13, 0, none⟩ = some (.int .i64 x.kind) := hSw.cell 0; have y1 : W.cell? ⟨g13, 1, none⟩ = some (.string x.id) := hSw.cell 1; have y5 : W.cell? ⟨g13, 5, none⟩ = some (.bool x.loop) := hSw.cell 5; have y8 : W.cell? ⟨g13, 8, none⟩ = some (.slice A8 x.items.length k8) := hSw.cell 8; have y9 : W.cell? ⟨g13, 9, none⟩ = some (.slice A9 x.seqs.length k9) := hSw.cell 9; go_simp); (try (with_reducible rfl)))
                try simp only [Act.put, List.setIfInBounds_toArray, List.set_cons_zero, List.set_cons_succ]
                refine ht_done (by kernel_rfl) rfl ?_
                have hmk4 : Mk w0.heap.size wd w4 := (((Mk.refl _ wd).drew).alloc _ (by omega)).trans hmk8
                have hz14 := ((Blk.new wd.drew 33 #[.int .i64 0, .string ⟨#[]⟩, .string ⟨#[]⟩, .slice none 0 0, .slice none 0 0, .bool false, .string ⟨#[]⟩, .slice none 0 0, .slice none 0 0, .slice none 0 0]).mk_ hmk8 (by decide) (by decide)).below hb5' ((Blk.new wd.drew _ _).mk_ hmk8 (by decide) (by decide)).lt
                have z0 : w5.cell? ⟨wd.heap.size, 0, none⟩ = some (.int .i64 0) := hz14.cell 0
                have z1 : w5.cell? ⟨wd.heap.size, 1, none⟩ = some (.string ⟨#[]⟩) := hz14.cell 1
                have z2 : w5.cell? ⟨wd.heap.size, 2, none⟩ = some (.string ⟨#[]⟩) := hz14.cell 2
                have z3 : w5.cell? ⟨wd.heap.size, 3, none⟩ = some (.slice none 0 0) := hz14.cell 3
                have z4 : w5.cell? ⟨wd.heap.size, 4, none⟩ = some (.slice none 0 0) := hz14.cell 4
                have z5 : w5.cell? ⟨wd.heap.size, 5, none⟩ = some (.bool false) := hz14.cell 5
                have z6 : w5.cell? ⟨wd.heap.size, 6, none⟩ = some (.string ⟨#[]⟩) := hz14.cell 6
                have z7 : w5.cell? ⟨wd.heap.size, 7, none⟩ = some (.slice none 0 0) := hz14.cell 7
                have z8 : w5.cell? ⟨wd.heap.size, 8, none⟩ = some (.slice none 0 0) := hz14.cell 8
                have z9 : w5.cell? ⟨wd.heap.size, 9, none⟩ = some (.slice none 0 0) := hz14.cell 9
                have q0_ : w5.frozen? ⟨wd.heap.size, 0, none⟩ = false := hz14.frozen 0
                have q1_ : w5.frozen? ⟨wd.heap.size, 1, none⟩ = false := hz14.frozen 1
                have q2_ : w5.frozen? ⟨wd.heap.size, 2, none⟩ = false := hz14.frozen 2
                have q3_ : w5.frozen? ⟨wd.heap.size, 3, none⟩ = false := hz14.frozen 3
                have q4_ : w5.frozen? ⟨wd.heap.size, 4, none⟩ = false := hz14.frozen 4
                have q5_ : w5.frozen? ⟨wd.heap.size, 5, none⟩ = false := hz14.frozen 5
                have q6_ : w5.frozen? ⟨wd.heap.size, 6, none⟩ = false := hz14.frozen 6
                have q7_ : w5.frozen? ⟨wd.heap.size, 7, none⟩ = false := hz14.frozen 7
                have q8_ : w5.frozen? ⟨wd.heap.size, 8, none⟩ = false := hz14.frozen 8
                have q9_ : w5.frozen? ⟨wd.heap.size, 9, none⟩ = false := hz14.frozen 9
                have hv := newV_set (W := w5) (N := wd.heap.size) (g14 := wd.heap.size) (m := m) (vM := vM) (vC := vC) (s5 := s5) (q := p ++ x.id) (kind := x.kind) (loop := x.loop) (hmk4.below hb5' (by omega)) (hst8.below hb5') ((HB3.out.mk_ hmk4 (by decide) (by decide)).below hb5' (HB3.out.mk_ hmk4 (by decide) (by decide)).lt) (((Blk.new wd.drew _ _).mk_ hmk8 (by decide) (by decide)).below hb5' ((Blk.new wd.drew _ _).mk_ hmk8 (by decide) (by decide)).lt) (Nat.le_refl _) hgc rfl (by omega) ((hrd8.below hb5').mono fun b hb => by (have h : wd.heap.size + 1 ≤ b := (by simpa using hb)); omega) (hrd9.mono fun b hb => by (have h : w4.heap.size ≤ b := hb); have h2 := hmk8.size; simp at h2; omega)
                go_wp2_with fail
                go_meet
                case rel => exact ⟨_, _, _, _, _, rfl, hv⟩
            case rest =>
              obtain ⟨g14, A8', k8', A9', k9', rfl, hV⟩ := hcut
              obtain ⟨wf, rfl⟩ : ∃ wf, wf = wc := ⟨_, rfl⟩
              clear c0 hqx heb hkb m4 HU
              have hbd : Below w0.heap.size w0 wd := HB0.out.trans HX3.out.mk_.to_below
              have HBD := Lib.hid hbd
              obtain ⟨fs, hfs⟩ : ∃ fs, fs = if x.kind = 3 then whoF ms x.first else ⟨#[]⟩ := ⟨_, rfl⟩
              have HFS := Lib.hid hfs
              have c0 : wf.cell? ⟨g13, 0, none⟩ = some (.int .i64 x.kind) := hV.b13.cell 0
              have HV := Lib.hid hV
              have hszf := hV.mk_.size
              have HMSX : Hid (∀ U, Mk w0.heap.size wd U → Rd U (mapsD ms) vms) := fun U hm => Rd.mk_ (HX3.out.mk_.trans hm) _ _ (fm_maps ms) HMS.out
              clear hbd hfs hV
              go_upto_if 78 with fail
              go_cut [] (fun wx => NewI w0.heap.size wd.heap.size m g13 g14 #[.int .i64 x.kind, .string x.id, .string x.first, .slice A3 x.parts.length k3, .slice A4 x.flows.length k4, .bool x.loop, .string x.called, .slice A7 x.maps.length k7, .slice A8 x.items.length k8, .slice A9 x.seqs.length k9] vM vC s5 (p ++ x.id) x.kind fs x.loop its1 sq (.slice A8' its1.length k8') (.slice A9' sq.length k9') [] [] wd wx)
              case first =>
                by_cases hk3 : x.kind = 3
                · have e : fs = whoF ms x.first := by rw [HFS.out, if_pos hk3]
                  have hkb3 : (x.kind == 3) = true := by simp [hk3]
                  have HE := Lib.hid e
                  have c2 : wf.cell? ⟨g13, 2, none⟩ = some (.string x.first) := HV.out.b13.cell 2
                  clear e hk3
                  go_wp2_with fail
                  refine (who_any x.first (HMSX.out _ HV.out.mk_)).mono ?_
                  rintro e w6 ⟨rfl, hb6'⟩
                  have hV6 := HV.out.below hb6'
                  have z0 : w6.cell? ⟨g14, 2, none⟩ = some (.string ⟨#[]⟩) := hV6.b14.cell 2
                  have z1 := hV6.b14.frozen 2
                  have HV6 := Lib.hid hV6
                  clear hV6 hb6'
                  go_wp2_with fail
                  go_meet
                  case rel =>
                    have := HV6.out.setFirst (whoF ms x.first)
                    rw [← HE.out] at this ⊢
                    exact ⟨_, _, this⟩
                · have e : fs = ⟨#[]⟩ := by rw [HFS.out, if_neg hk3]
                  have hkb3 : (x.kind == 3) = false := by simp [hk3]
                  have HE := Lib.hid e
                  clear e hk3
                  go_wp2_with fail
                  go_meet
                  case rel => rw [HE.out]; exact ⟨_, _, HV.out⟩
              case rest =>
                have c3 : wc.cell? ⟨g13, 3, none⟩ = some (.slice A3 x.parts.length k3) := hcut.choose_spec.choose_spec.b13.cell 3
                have HN := Lib.hid hcut
                clear hcut c0
                go_wp2_with fail
                go_loopw [87] (fun iv wr => InPa w0.heap.size wd.heap.size m g13 g14 #[.int .i64 x.kind, .string x.id, .string x.first, .slice A3 x.parts.length k3, .slice A4 x.flows.length k4, .bool x.loop, .string x.called, .slice A7 x.maps.length k7, .slice A8 x.items.length k8, .slice A9 x.seqs.length k9] vM vC s5 (p ++ x.id) x.kind fs x.loop its1 sq (.slice A8' its1.length k8') (.slice A9' sq.length k9') x.parts (whoF ms) wd iv wr) (fun iv _ => x.parts.length - (intOf iv).toNat)
                case atStart => exact ⟨0, Nat.zero_le _, rfl, HN.out⟩
                case round =>
                  obtain ⟨i, hi, rfl, vPn, vFn, hV⟩ := hrel
                  have HV2 := Lib.hid hV
                  clear hV
                  by_cases hlt2 : i < x.parts.length
                  · obtain ⟨A3b, c3b, hv3, _, _, hat3⟩ := rd_at strC_len H3.out
                    injection hv3 with ea _ eb
                    subst ea
                    subst eb
                    obtain ⟨b3, vs, rfl, hb3l, _, hvs3, hcell3⟩ := hat3 i hlt2
                    obtain ⟨sp, hsp⟩ : ∃ sp, sp = x.parts[i] := ⟨_, rfl⟩
                    have hst : (x.parts.take (i + 1)).map (whoF ms) = (x.parts.take i).map (whoF ms) ++ [whoF ms sp] := by
                      rw [List.take_succ_eq_append_getElem hlt2, List.map_append, hsp]
                      rfl
                    rw [← hsp] at hvs3
                    obtain rfl := rd_strC hvs3
                    have hb0w : Below w0.heap.size w0 wr := HBD.out.trans HV2.out.mk_.to_below
                    have e0 : wr.cell? ⟨b3, i, none⟩ = some (.string sp) := (hb0w.cell (p := ⟨b3, i, none⟩) hb3l).trans (by have := hcell3 0 (by omega); simpa using this)
                    obtain ⟨pl, hpl⟩ : ∃ pl, pl = (x.parts.take i).map (whoF ms) := ⟨_, rfl⟩
                    have hplb : pl.length ≤ 1000000 := by rw [hpl]; simp; omega
                    have hV3 := HV2.out
                    rw [← hpl] at hV3 hst
                    have HST2 := Lib.hid hst
                    have HV3 := Lib.hid hV3
                    have hszr := hV3.mk_.size
                    obtain ⟨j0, hj0, hy0, hy1, hy2⟩ := info_parts Try.infoStrI
                    clear hsp hvs3 hcell3 hat3 hst hpl hV3 hb0w HV2
                    go_upto_region 18 with fail
                    refine wp_region_HT 8 (fun V => Blk V g14 33 #[.int .i64 x.kind, .string (p ++ x.id), .string fs, vPn, vFn, .bool x.loop, .string ⟨#[]⟩, .slice none 0 0, .slice A8' its1.length k8', .slice A9' sq.length k9']) (by kernel_rfl) (by decide) (HV3.out.b14) (fun hHeld => ?_)
                    refine ht_take 0 (v := ?vp_1) rfl (by kernel_rfl) (fun _ _ _ h => h) (Or.inl ⟨by rfl, ?hp_1⟩) hHeld ?rp_1
                    case hp_1 => ((intro W hSw; have y3 : W.cell? ⟨g14, 3, none⟩ = some vPn := hSw.cell 3; go_simp); (try (with_reducible rfl)))
                    try simp only [Act.put, List.setIfInBounds_toArray, List.set_cons_zero, List.set_cons_succ]
                    refine ht_take 1 (v := ?vp_2) rfl (by kernel_rfl) (fun _ _ _ h => h) (Or.inl ⟨by rfl, ?hp_2⟩) hHeld ?rp_2
                    case hp_2 => ((intro W hSw; have y3 : W.cell? ⟨g14, 3, none⟩ = some vPn := hSw.cell 3; go_simp); (try (with_reducible rfl)))
                    try simp only [Act.put, List.setIfInBounds_toArray, List.set_cons_zero, List.set_cons_succ]
                    refine ht_take 2 (v := ?vp_3) rfl (by kernel_rfl) (fun _ _ _ h => h) (Or.inl ⟨by rfl, ?hp_3⟩) hHeld ?rp_3
                    case hp_3 => ((intro W hSw; have y3 : W.cell? ⟨g14, 3, none⟩ = some vPn := hSw.cell 3; go_simp); (try (with_reducible rfl)))
                    try simp only [Act.put, List.setIfInBounds_toArray, List.set_cons_zero, List.set_cons_succ]
                    refine ht_take 3 (v := ?vp_4) rfl (by kernel_rfl) (fun _ _ _ h => h) (Or.inl ⟨by rfl, ?hp_4⟩) hHeld ?rp_4
                    case hp_4 => ((intro W hSw; have y3 : W.cell? ⟨g14, 3, none⟩ = some vPn := hSw.cell 3; go_simp); (try (with_reducible rfl)))
                    try simp only [Act.put, List.setIfInBounds_toArray, List.set_cons_zero, List.set_cons_succ]
                    refine ht_one 4 rfl (by kernel_rfl) (fun K hK => ?_)
                    go_simp
                    refine (who_any sp (HMSX.out _ HV3.out.mk_.drew)).mono ?_
                    rintro e w6 ⟨rfl, hb6'⟩
                    have hV6 := HV3.out.below (((Below.refl _ _).drew).trans hb6')
                    have HV6 := Lib.hid hV6
                    have hsz6' := hV6.mk_.size
                    clear hV6
                    go_wp2_with fail
                    refine hK.out _ _ (hHeld.below hb6' hHeld.lt) (fun hHeld => ?_)
                    clear hK K
                    try simp only [Act.put, List.setIfInBounds_toArray, List.set_cons_zero, List.set_cons_succ]
                    refine ht_one 5 rfl (by kernel_rfl) (fun K hK => ?_)
                    go_simp
                    refine hK.out _ _ (hHeld.alloc _) (fun hHeld => ?_)
                    clear hK K
                    try simp only [Act.put, List.setIfInBounds_toArray, List.set_cons_zero, List.set_cons_succ]
                    refine ht_one 6 rfl (by kernel_rfl) (fun K hK => ?_)
                    refine step_append_lies _ (by rfl) (.tmp 92) (.tmp 96) _ (by rfl) wd.heap.size 9 j0 _ 1 16 Try.underlying30 hj0 hy0 hy1 hy2 rfl (by omega) vPn pl.length (pl.map .string) (by rfl) (HV6.out.oP.alloc _) ⟨w6.heap.size, 0, none⟩ 1 1 [.string (whoF ms sp)] (by rfl) (by rfl) (World.news_of_block (cs := #[.string (whoF ms sp)]) (t := 9) (fr := (0, 0)) (heap_alloc_new w6 _)) (by simp [Value.oneCell']) (by omega) (by unfold maxLen; omega) (by omega) (by simp; omega) (w6.heap.size + 1) (by simp) ?_
                    intro gA capA w7 hown7 hgrow7 hat7 hlt7
                    refine hK.out _ _ (hHeld.grown hgrow7 (Ne.symm (blk_own_ne (HV6.out.oP.alloc _) hHeld (by decide)))) (fun hHeld => ?_)
                    clear hK K
                    try simp only [Act.put, List.setIfInBounds_toArray, List.set_cons_zero, List.set_cons_succ]
                    refine ht_take 7 (v := ?vp_5) rfl (by kernel_rfl) (fun _ _ _ h => h) (Or.inl ⟨by rfl, ?hp_5⟩) hHeld ?rp_5
                    case hp_5 => ((intro W hSw; have y3 : W.cell? ⟨g14, 3, none⟩ = some vPn := hSw.cell 3; go_simp); (try (with_reducible rfl)))
                    try simp only [Act.put, List.setIfInBounds_toArray, List.set_cons_zero, List.set_cons_succ]
                    refine ht_done (by kernel_rfl) rfl ?_
                    have z0 : w7.cell? ⟨g14, 3, none⟩ = some vPn := hHeld.cell 3
                    have z1 := hHeld.frozen 3
                    have hV7 := HV6.out.part hown7 hgrow7 hat7
                    have HV7 := Lib.hid hV7
                    clear hV7
                    go_wp2_with fail
                    go_roundw
                    case rel =>
                      exact ⟨i + 1, by omega, by go_num, by rw [HST2.out]; exact ⟨_, _, HV7.out⟩⟩
                    case measure => simp [intOf]; omega
                  · have hall : (x.parts.take i).map (whoF ms) = x.parts.map (whoF ms) := by rw [List.take_of_length_le (by omega)]
                    have hV3 := HV2.out
                    rw [hall] at hV3
                    have c4 : wr.cell? ⟨g13, 4, none⟩ = some (.slice A4 x.flows.length k4) := hV3.b13.cell 4
                    have HV3 := Lib.hid hV3
                    clear hall hV3 HV2
                    go_wp2_with fail
                    go_loopw [103] (fun iv wr => InFs w0.heap.size wd.heap.size m g13 g14 #[.int .i64 x.kind, .string x.id, .string x.first, .slice A3 x.parts.length k3, .slice A4 x.flows.length k4, .bool x.loop, .string x.called, .slice A7 x.maps.length k7, .slice A8 x.items.length k8, .slice A9 x.seqs.length k9] vM vC s5 (p ++ x.id) x.kind fs x.loop its1 sq (.slice A8' its1.length k8') (.slice A9' sq.length k9') (x.parts.map (whoF ms)) x.flows (p ++ ·) wd iv wr) (fun iv _ => x.flows.length - (intOf iv).toNat)
                    case atStart => exact ⟨0, Nat.zero_le _, rfl, _, _, HV3.out⟩
                    case round =>
                      obtain ⟨i2, hi2, rfl, vPn2, vFn2, hV⟩ := hrel
                      have HV4 := Lib.hid hV
                      have hszr := hV.mk_.size
                      clear hV
                      by_cases hlt3 : i2 < x.flows.length
                      · obtain ⟨A4b, c4b, hv4, _, _, hat4⟩ := rd_at strC_len H4.out
                        injection hv4 with ea _ eb
                        subst ea
                        subst eb
                        obtain ⟨b4, vs, rfl, hb4l, _, hvs4, hcell4⟩ := hat4 i2 hlt3
                        obtain ⟨sf, hsf⟩ : ∃ sf, sf = x.flows[i2] := ⟨_, rfl⟩
                        have hst : (x.flows.take (i2 + 1)).map (p ++ ·) = (x.flows.take i2).map (p ++ ·) ++ [p ++ sf] := by
                          rw [List.take_succ_eq_append_getElem hlt3, List.map_append, hsf]
                          rfl
                        have hsfz : sf.size ≤ 1000 := by rw [hsf]; exact Q4.out _ (List.getElem_mem hlt3)
                        rw [← hsf] at hvs4
                        obtain rfl := rd_strC hvs4
                        have hb0w : Below w0.heap.size w0 wr := HBD.out.trans HV4.out.mk_.to_below
                        have e0 : wr.cell? ⟨b4, i2, none⟩ = some (.string sf) := (hb0w.cell (p := ⟨b4, i2, none⟩) hb4l).trans (by have := hcell4 0 (by omega); simpa using this)
                        obtain ⟨fl, hfl⟩ : ∃ fl, fl = (x.flows.take i2).map (p ++ ·) := ⟨_, rfl⟩
                        have hplb : fl.length ≤ 1000000 := by rw [hfl]; simp; omega
                        have hV5 := HV4.out
                        rw [← hfl] at hV5 hst
                        have HST2 := Lib.hid hst
                        have z0 : wr.cell? ⟨g14, 4, none⟩ = some vFn2 := hV5.b14.cell 4
                        have HV5 := Lib.hid hV5
                        obtain ⟨j0, hj0, hy0, hy1, hy2⟩ := info_parts Try.infoStrI
                        clear hsf hvs4 hcell4 hat4 hst hfl hV5 hb0w HV4
                        go_wp2_with (at_builtin; refine wpList_append_lies _ rfl (.tmp 108) (.tmp 112) _ rfl wd.heap.size 9 j0 _ 1 16 Try.underlying30 hj0 hy0 hy1 hy2 rfl (by omega) vFn2 fl.length (fl.map .string) rfl (HV5.out.oF.alloc _) ⟨wr.heap.size, 0, none⟩ 1 1 [.string (p ++ sf)] rfl rfl (World.news_of_block (cs := #[.string (p ++ sf)]) (t := 9) (fr := (0, 0)) (heap_alloc_new wr _)) (by simp [Value.oneCell']) (by omega) (by unfold maxLen; omega) (by omega) (by simp; omega) (wr.heap.size + 1) (by simp) ?_)
                        intro gA capA w7 hown7 hgrow7 hat7 hlt7
                        have hb14 := (HV5.out.b14.alloc (.cells #[.string (p ++ sf)] 9)).grown hgrow7 (Ne.symm (blk_own_ne HV5.out.oF HV5.out.b14 (by decide)))
                        have z2 : w7.cell? ⟨g14, 4, none⟩ = some vFn2 := hb14.cell 4
                        have z1 := hb14.frozen 4
                        have hV7 := HV5.out.flow hown7 hgrow7 hat7
                        have HV7 := Lib.hid hV7
                        clear hV7 hb14 hown7 hgrow7 hat7
                        go_wp2_with fail
                        go_roundw
                        case rel =>
                          exact ⟨i2 + 1, by omega, by go_num, by rw [HST2.out]; exact ⟨_, _, HV7.out⟩⟩
                        case measure => simp [intOf]; omega
                      · have hall : (x.flows.take i2).map (p ++ ·) = x.flows.map (p ++ ·) := by rw [List.take_of_length_le (by omega)]
                        have hV5 := HV4.out
                        rw [hall] at hV5
                        obtain ⟨AP, kP, rfl, _, _⟩ := own_slice hV5.oP
                        obtain ⟨AF, kF, rfl, _, _⟩ := own_slice hV5.oF
                        have hlP : (x.parts.map (whoF ms)).length = x.parts.length := by simp
                        have hlF : (x.flows.map (p ++ ·)).length = x.flows.length := by simp
                        have hX5 := HX3.out.step hV5.mk_ hV5.st
                        have hrow : ∀ g, u11.ownBlock = some g → g < wd.heap.size := fun g hg => (HX3.out.own.lt g hg).2
                        have hsub : ∀ b, wd.heap.size ≤ b → w.heap.size ≤ b ∧ u11.ownBlock ≠ some b := fun b hb => ⟨by omega, fun e => by have := hrow b e; omega⟩
                        have hyd : RdPL (fun b => w.heap.size ≤ b ∧ u11.ownBlock ≠ some b) wr (itemC y) [.int .i64 x.kind, .string (p ++ x.id), .string fs, .slice AP (x.parts.map (whoF ms)).length kP, .slice AF (x.flows.map (p ++ ·)).length kF, .bool x.loop, .string ⟨#[]⟩, .slice none 0 0, .slice A8' its1.length k8', .slice A9' sq.length k9'] := by
                          rw [← HY.out, HFS.out]
                          unfold itemF
                          have hsq := HSQ.out
                          refine rdpl_item (x := ⟨x.kind, p ++ x.id, if x.kind = 3 then whoF ms x.first else ⟨#[]⟩, x.parts.map (whoF ms), x.flows.map (p ++ ·), x.loop, ⟨#[]⟩, [], its1, x.seqs.map (seqF p)⟩) ?_ ?_ rdp_nil_maps ?_ ?_
                          · exact rdp_of_own hV5.oP hsub (rdpl_strs _)
                          · exact rdp_of_own hV5.oF hsub (rdpl_strs _)
                          · exact hV5.r8.mono fun b hb => hsub b hb.1
                          · rw [← hsq]; exact hV5.r9.mono fun b hb => hsub b hb.1
                        have hb14 := hV5.b14
                        rw [hlP, hlF] at hyd hb14
                        have t0_ : wr.cell? ⟨g14, 0, none⟩ = some (.int .i64 x.kind) := hb14.cell 0
                        have t1_ : wr.cell? ⟨g14, 1, none⟩ = some (.string (p ++ x.id)) := hb14.cell 1
                        have t2_ : wr.cell? ⟨g14, 2, none⟩ = some (.string fs) := hb14.cell 2
                        have t3_ : wr.cell? ⟨g14, 3, none⟩ = some (.slice AP x.parts.length kP) := hb14.cell 3
                        have t4_ : wr.cell? ⟨g14, 4, none⟩ = some (.slice AF x.flows.length kF) := hb14.cell 4
                        have t5_ : wr.cell? ⟨g14, 5, none⟩ = some (.bool x.loop) := hb14.cell 5
                        have t6_ : wr.cell? ⟨g14, 6, none⟩ = some (.string ⟨#[]⟩) := hb14.cell 6
                        have t7_ : wr.cell? ⟨g14, 7, none⟩ = some (.slice none 0 0) := hb14.cell 7
                        have t8_ : wr.cell? ⟨g14, 8, none⟩ = some (.slice A8' its1.length k8') := hb14.cell 8
                        have t9_ : wr.cell? ⟨g14, 9, none⟩ = some (.slice A9' sq.length k9') := hb14.cell 9
                        have HX5 := Lib.hid hX5
                        have HYD := Lib.hid hyd
                        clear hall hV5 hlP hlF hX5 hyd hrow hsub hb14 HV4
                        go_wp2_with (at_builtin; refine wpList_append_lies _ rfl (.tmp 116) (.tmp 118) _ rfl w.heap.size 33 i0 _ 10 184 Try.underlying25 hi0 hz0 hz1 hz2 rfl (by omega) u11 outl.length cells rfl (HX5.out.own.alloc _) ⟨wr.heap.size, 0, none⟩ 1 1 [.int .i64 x.kind, .string (p ++ x.id), .string fs, .slice AP x.parts.length kP, .slice AF x.flows.length kF, .bool x.loop, .string ⟨#[]⟩, .slice none 0 0, .slice A8' its1.length k8', .slice A9' sq.length k9'] rfl rfl (World.news_of_block (cs := #[.int .i64 x.kind, .string (p ++ x.id), .string fs, .slice AP x.parts.length kP, .slice AF x.flows.length kF, .bool x.loop, .string ⟨#[]⟩, .slice none 0 0, .slice A8' its1.length k8', .slice A9' sq.length k9']) (t := 33) (fr := (0, 0)) (heap_alloc_new wr _)) (by simp [Value.oneCell']) (by omega) (by unfold maxLen; omega) (by omega) (by simp; omega) (wr.heap.size + 1) (by simp) ?_)
                        intro gO capO w7 hown7 hgrow7 hat7 hlt7
                        have hX7 := HX5.out.push HYD.out hown7 hgrow7 hat7 hsz0
                        have HX7 := Lib.hid hX7
                        clear hX7 hown7 hgrow7 hat7
                        go_wp2_with fail
                        go_roundw
                        case rel => exact ⟨j + 1, outl ++ [y], _, s5, by omega, by go_num, HX7.out, HG4.out, by simp; omega, hn5⟩
                        case measure => simp [intOf]; omega
        · have heb : (s4.e != 0) = true := by simp [he]
          have hfin : its = [] ∧ s' = s4 := by
            rw [itemsG_stop (by rw [← hs4]; exact he), ← hs4] at hG3
            injection hG3 with hG3
            injection hG3 with h1 h2
            exact ⟨h1.symm, h2.symm⟩
          have HFIN := Lib.hid hfin
          clear hfin hG3 hs4 he
          go_wp2_with fail
          go_ret
          obtain ⟨h1, h2⟩ := HFIN.out
          rw [h1, h2]
          exact ⟨_, rfl, rd_nil_items, HX3.out.st, HX3.out.mk_⟩
    · have hfin : its = outl ∧ s' = s3 := by
        have := hG.out
        rw [List.drop_eq_nil_of_le (by omega), itemsG_nil] at this
        injection this with this
        injection this with h1 h2
        exact ⟨h1.symm, h2.symm⟩
      have HFIN := Lib.hid hfin
      clear hfin hG
      go_wp2_with fail
      go_ret
      obtain ⟨h1, h2⟩ := HFIN.out
      rw [h1, h2]
      obtain ⟨A, c, hov, _, _⟩ := own_slice HX.out.own
      refine ⟨_, rfl, ?_, HX.out.st, HX.out.mk_⟩
      have ho := HX.out.own
      have hr := HX.out.rd
      rw [hov] at ho ⊢
      exact rdp_of_own ho (fun _ h => h) (RdPL.keep (fun b hs _ => ⟨rfl, hs.1⟩) _ _ hr)
end Go.Proofs.Yteoioboiniealaa
