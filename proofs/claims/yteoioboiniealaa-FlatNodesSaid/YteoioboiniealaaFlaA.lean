/- What flat.Graph computes, as plain functions; what its maker is in memory, and which steps turn it. -/
import Derived.Test.YteoioboiniealaaGenB
import Derived.Test.YteoioboiniealaaFindB
namespace Go.Proofs.Yteoioboiniealaa
open Go.RowKit

structure NodeD where
  kind : Int
  id : ByteArray
  src : Int
  dst : Int
  msg : Int
  reply : Int
  loop : Bool
def nodeV (x : NodeD) : List Value := [.int .i64 x.kind, .string x.id, .int .i64 x.src, .int .i64 x.dst, .int .i64 x.msg, .int .i64 x.reply, .bool x.loop]
def edgeV (x : Int × Int) : List Value := [.int .i64 x.1, .int .i64 x.2]
/-- What is written on the way. -/
structure FS where
  msgs : List ByteArray
  nodes : List NodeD
  edges : List (Int × Int)
  e : Int
def placeF (l : List ByteArray) (x : ByteArray) : Int := findFrom (eqS · x) l 0
def msgF (s : FS) (id : ByteArray) : Int × FS :=
  if placeF s.msgs id < 0 then ((s.msgs.length : Int), ⟨s.msgs ++ [id], s.nodes, s.edges, s.e⟩) else (placeF s.msgs id, s)
def addNode (s : FS) (n : NodeD) : Int × FS := ((s.nodes.length : Int), ⟨s.msgs, s.nodes ++ [n], s.edges, s.e⟩)
def noneF (s : FS) : FS := ⟨s.msgs, s.nodes, s.edges, 6⟩
def taskN (i : ItemD) : NodeD := ⟨3, i.id, -1, -1, 0, -1, i.loop⟩
/-- A task's message flows, one behind the other; true: it is told at once that one is not there. -/
def taskG (ps : List ByteArray) (fl : List FlowD) : List ByteArray → Nat → NodeD → FS → Bool × NodeD × FS
  | [], _, n, s => (false, n, s)
  | f :: l, k, n, s =>
    if findFrom (fun x : FlowD => eqS x.id f) fl 0 < 0 ∨ 1 < k then (true, n, noneF s) else
    match fl[(findFrom (fun x : FlowD => eqS x.id f) fl 0).toNat]? with
    | none => (true, n, noneF s)
    | some x =>
      if k = 1 then taskG ps fl l (k + 1) ⟨n.kind, n.id, n.src, n.dst, n.msg, (msgF s x.msg).1, n.loop⟩ (msgF s x.msg).2
      else taskG ps fl l (k + 1) ⟨n.kind, n.id, placeF ps x.src, placeF ps x.dst, (msgF s x.msg).1, n.reply, n.loop⟩ (msgF s x.msg).2
def taskE (r : Bool × NodeD × FS) : Int × FS :=
  if r.1 = false ∧ (r.2.1.src < 0 ∨ r.2.1.dst < 0 ∨ r.2.1.src = r.2.1.dst) then addNode (noneF r.2.2) r.2.1 else addNode r.2.2 r.2.1
def taskF (ps : List ByteArray) (fl : List FlowD) (i : ItemD) (s : FS) : Int × FS := taskE (taskG ps fl i.flows 0 (taskN i) s)
def plainN (k : Int) (i : ItemD) : NodeD := ⟨k, i.id, -1, -1, -1, -1, false⟩
/-- An item, by what makes a level. -/
def fitemG (rec : List ItemD → List SeqD → FS → Option ((Int × Int) × FS)) (ps : List ByteArray) (fl : List FlowD) (within : Bool) (s : FS) (i : ItemD) : Option ((Int × Int) × FS) :=
  if i.kind = 3 then some (((taskF ps fl i s).1, (taskF ps fl i s).1), (taskF ps fl i s).2)
  else if i.kind = 7 then rec i.items i.seqs s
  else if within = true ∧ (i.kind = 1 ∨ i.kind = 2) then some (((addNode s (plainN 4 i)).1, (addNode s (plainN 4 i)).1), (addNode s (plainN 4 i)).2)
  else some (((addNode s (plainN i.kind i)).1, (addNode s (plainN i.kind i)).1), (addNode s (plainN i.kind i)).2)
def outF (x : ItemD) (r out : Int × Int) : Int × Int := if x.kind = 1 then (r.1, out.2) else if x.kind = 2 then (out.1, r.2) else out
/-- The items of a level. -/
def flev1 (one : FS → ItemD → Option ((Int × Int) × FS)) : List ItemD → List (Int × Int) → Int × Int → FS → Option (List (Int × Int) × (Int × Int) × FS)
  | [], ats, out, s => some (ats, out, s)
  | x :: l, ats, out, s =>
    match one s x with
    | none => none
    | some (r, s2) => flev1 one l (ats ++ [r]) (outF x r out) s2
def fedge (l : List ItemD) (ats : List (Int × Int)) (q : SeqD) (s : FS) : FS :=
  if findFrom (fun x : ItemD => eqS x.id q.src) l 0 < 0 ∨ findFrom (fun x : ItemD => eqS x.id q.dst) l 0 < 0 ∨ (ats.getD (findFrom (fun x : ItemD => eqS x.id q.src) l 0).toNat (0, 0)).2 < 0 ∨ (ats.getD (findFrom (fun x : ItemD => eqS x.id q.dst) l 0).toNat (0, 0)).1 < 0 then noneF s
  else ⟨s.msgs, s.nodes, s.edges ++ [((ats.getD (findFrom (fun x : ItemD => eqS x.id q.src) l 0).toNat (0, 0)).2, (ats.getD (findFrom (fun x : ItemD => eqS x.id q.dst) l 0).toNat (0, 0)).1)], s.e⟩
/-- What follows what. -/
def flev2 (l : List ItemD) (ats : List (Int × Int)) : List SeqD → FS → FS
  | [], s => s
  | q :: r, s => flev2 l ats r (fedge l ats q s)
/-- A level, with so much fuel. -/
def flevF (ps : List ByteArray) (fl : List FlowD) : Nat → Bool → List ItemD → List SeqD → FS → Option ((Int × Int) × FS)
  | 0, _, _, _, _ => none
  | f + 1, within, l, sq, s =>
    match flev1 (fitemG (flevF ps fl f true) ps fl within) l [] (-1, -1) s with
    | none => none
    | some (ats, out, s2) => some (out, flev2 l ats sq s2)
/-- A choreography's graph, and what is wrong. -/
def graphF (f : Nat) (c : ChorD) : Option FS :=
  match flevF (c.parts.map (·.id)) c.flows f false c.items c.seqs ⟨[], [], [], 0⟩ with
  | none => none
  | some r => some r.2

/-- What is counted only grows. -/
structure FS.Le (s s' : FS) : Prop where
  msgs : s.msgs.length ≤ s'.msgs.length
  nodes : s.nodes.length ≤ s'.nodes.length
  edges : s.edges.length ≤ s'.edges.length
theorem FS.Le.refl (s : FS) : FS.Le s s := ⟨Nat.le_refl _, Nat.le_refl _, Nat.le_refl _⟩
theorem FS.Le.trans {a b c : FS} (h : FS.Le a b) (k : FS.Le b c) : FS.Le a c := ⟨Nat.le_trans h.msgs k.msgs, Nat.le_trans h.nodes k.nodes, Nat.le_trans h.edges k.edges⟩
theorem le_none (s : FS) : FS.Le s (noneF s) := ⟨Nat.le_refl _, Nat.le_refl _, Nat.le_refl _⟩
theorem le_msg (s : FS) (id : ByteArray) : FS.Le s (msgF s id).2 := by
  unfold msgF
  split
  · exact ⟨by simp, Nat.le_refl _, Nat.le_refl _⟩
  · exact FS.Le.refl s
theorem le_node (s : FS) (n : NodeD) : FS.Le s (addNode s n).2 := ⟨Nat.le_refl _, by simp [addNode], Nat.le_refl _⟩
theorem le_taskG (ps : List ByteArray) (fl : List FlowD) : ∀ (l : List ByteArray) (k : Nat) (n : NodeD) (s : FS), FS.Le s (taskG ps fl l k n s).2.2
  | [], _, _, s => FS.Le.refl s
  | f :: l, k, n, s => by
    unfold taskG
    split
    · exact le_none s
    · split
      · exact le_none s
      · split
        · exact (le_msg _ _).trans (le_taskG ps fl l _ _ _)
        · exact (le_msg _ _).trans (le_taskG ps fl l _ _ _)
theorem le_taskE (r : Bool × NodeD × FS) : FS.Le r.2.2 (taskE r).2 := by
  unfold taskE
  split
  · exact (le_none _).trans (le_node _ _)
  · exact le_node _ _
theorem le_task (ps : List ByteArray) (fl : List FlowD) (i : ItemD) (s : FS) : FS.Le s (taskF ps fl i s).2 := (le_taskG ps fl _ _ _ _).trans (le_taskE _)
theorem le_item {rec : List ItemD → List SeqD → FS → Option ((Int × Int) × FS)} (hr : ∀ l q s r s', rec l q s = some (r, s') → FS.Le s s') {ps : List ByteArray} {fl : List FlowD} {within : Bool} {s s' : FS} {i : ItemD} {r : Int × Int} (h : fitemG rec ps fl within s i = some (r, s')) : FS.Le s s' := by
  unfold fitemG at h
  split at h
  · injection h with h; injection h with _ h; rw [← h]; exact le_task _ _ _ _
  · split at h
    · exact hr _ _ _ _ _ h
    · split at h
      · injection h with h; injection h with _ h; rw [← h]; exact le_node _ _
      · injection h with h; injection h with _ h; rw [← h]; exact le_node _ _
theorem le_flev1 {one : FS → ItemD → Option ((Int × Int) × FS)} (ho : ∀ s i r s', one s i = some (r, s') → FS.Le s s') : ∀ (l : List ItemD) (ats : List (Int × Int)) (out : Int × Int) (s : FS) (ats' : List (Int × Int)) (out' : Int × Int) (s' : FS), flev1 one l ats out s = some (ats', out', s') → FS.Le s s'
  | [], ats, out, s, ats', out', s', h => by
    unfold flev1 at h
    injection h with h; injection h with _ h; injection h with _ h
    rw [← h]; exact FS.Le.refl s
  | x :: l, ats, out, s, ats', out', s', h => by
    unfold flev1 at h
    split at h
    · cases h
    · rename_i r s2 hx
      exact (ho _ _ _ _ hx).trans (le_flev1 ho l _ _ _ _ _ _ h)
theorem le_edge (l : List ItemD) (ats : List (Int × Int)) (q : SeqD) (s : FS) : FS.Le s (fedge l ats q s) := by
  unfold fedge
  split
  · exact le_none s
  · exact ⟨Nat.le_refl _, Nat.le_refl _, by simp⟩
theorem le_flev2 (l : List ItemD) (ats : List (Int × Int)) : ∀ (sq : List SeqD) (s : FS), FS.Le s (flev2 l ats sq s)
  | [], s => FS.Le.refl s
  | q :: r, s => (le_edge l ats q s).trans (le_flev2 l ats r _)
theorem le_flev (ps : List ByteArray) (fl : List FlowD) : ∀ (f : Nat) (within : Bool) (l : List ItemD) (sq : List SeqD) (s : FS) (r : Int × Int) (s' : FS), flevF ps fl f within l sq s = some (r, s') → FS.Le s s'
  | 0, _, _, _, _, _, _, h => by unfold flevF at h; cases h
  | f + 1, within, l, sq, s, r, s', h => by
    unfold flevF at h
    split at h
    · cases h
    · rename_i ats out s2 h1
      injection h with h
      injection h with _ h
      rw [← h]
      exact (le_flev1 (fun s i r s' h => le_item (le_flev ps fl f true) h) _ _ _ _ _ _ _ h1).trans (le_flev2 _ _ _ _)

/-- From w to w' only blocks of some types have turned. -/
structure ChT (ts : List TypeId) (w w' : World) : Prop where
  os : w'.os = w.os
  tape : w'.tape = w.tape
  output : w'.output = w.output
  size : w.heap.size ≤ w'.heap.size
  typ : ∀ (b : Nat) (cs : Array Value) (t : TypeId) (fr : Nat × Nat), w.heap[b]? = some (.cells cs t fr) → t ∉ ts → w'.heap[b]? = some (.cells cs t fr)
section
variable {ts us : List TypeId} {w w1 w2 : World}
theorem ChT.refl (ts : List TypeId) (w : World) : ChT ts w w := ⟨rfl, rfl, rfl, Nat.le_refl _, fun _ _ _ _ h _ => h⟩
theorem ChT.trans (h : ChT ts w w1) (k : ChT ts w1 w2) : ChT ts w w2 :=
  ⟨k.os.trans h.os, k.tape.trans h.tape, k.output.trans h.output, Nat.le_trans h.size k.size, fun b cs t fr hb ht => k.typ b cs t fr (h.typ b cs t fr hb ht) ht⟩
theorem ChT.mono (h : ChT ts w w1) (hs : ∀ t ∈ ts, t ∈ us) : ChT us w w1 := ⟨h.os, h.tape, h.output, h.size, fun b cs t fr hb ht => h.typ b cs t fr hb (fun k => ht (hs t k))⟩
theorem ChT.of_below (h : Below w.heap.size w w1) : ChT ts w w1 :=
  ⟨h.os, h.tape, h.output, h.size, fun b _ _ _ hb _ => (h.block b (by
    rcases Nat.lt_or_ge b w.heap.size with hl | hl
    · exact hl
    · rw [Array.getElem?_eq_none hl] at hb; cases hb)).trans hb⟩
theorem ChT.below (h : ChT ts w w1) (k : Below w1.heap.size w1 w2) : ChT ts w w2 := h.trans (.of_below k)
theorem ChT.alloc (h : ChT ts w w1) (o : Obj) : ChT ts w (w1.alloc o) := h.below ((Below.refl _ _).alloc (Nat.le_refl _) o)
theorem ChT.drew (h : ChT ts w w1) : ChT ts w w1.drew := ⟨h.os, h.tape, h.output, h.size, h.typ⟩
/-- A block of one of these types is turned. -/
theorem ChT.grown {g : Nat} {t : TypeId} {cs : Array Value} (h : ChT ts w w1) (hg : w1.grownBy w2 (some g)) (hb : Blk w1 g t cs) (ht : t ∈ ts) : ChT ts w w2 := by
  refine ⟨hg.os.trans h.os, hg.tape.trans h.tape, hg.output.trans h.output, Nat.le_trans h.size hg.size, fun b cs' t' fr' hb' ht' => ?_⟩
  have h3 := h.typ b cs' t' fr' hb' ht'
  have hl : b < w1.heap.size := by
    rcases Nat.lt_or_ge b w1.heap.size with hl | hl
    · exact hl
    · rw [Array.getElem?_eq_none hl] at h3; cases h3
  refine (hg.block b hl (fun e => ?_)).trans h3
  injection e with e
  subst e
  have hb2 : w1.heap[b]? = some (.cells cs t) := hb
  rw [hb2] at h3
  injection h3 with h3
  injection h3 with _ h3 _
  exact ht' (h3 ▸ ht)
/-- A row of one of these types is turned. -/
theorem ChT.row {base e size n : Nat} {v : Value} {xs : List Value} (h : ChT ts w w1) (ho : w1.ownsRow base e size v n xs) (hg : w1.grownBy w2 v.ownBlock) (ht : e ∈ ts) : ChT ts w w2 := by
  rcases ho.2 with ⟨rfl, _⟩ | ⟨g, cap, cur, rfl, _, hh, _⟩
  · refine ⟨hg.os.trans h.os, hg.tape.trans h.tape, hg.output.trans h.output, Nat.le_trans h.size hg.size, fun b cs' t' fr' hb' ht' => ?_⟩
    have h3 := h.typ b cs' t' fr' hb' ht'
    refine (hg.block b ?_ (fun e => by simp [Value.ownBlock] at e)).trans h3
    rcases Nat.lt_or_ge b w1.heap.size with hl | hl
    · exact hl
    · rw [Array.getElem?_eq_none hl] at h3; cases h3
  · exact h.grown hg (show Blk w1 g e cur from hh) ht
theorem Blk.ch {g : Nat} {t : TypeId} {cs : Array Value} (h : Blk w g t cs) (k : ChT ts w w1) (ht : t ∉ ts) : Blk w1 g t cs := k.typ g cs t (0, 0) h ht
theorem own_ch {base e size n : Nat} {v : Value} {xs : List Value} (h : w.ownsRow base e size v n xs) (k : ChT ts w w1) (ht : e ∉ ts) : w1.ownsRow base e size v n xs :=
  ⟨h.1, h.2.imp id fun ⟨g, cap, cur, a, b, hh, r⟩ => ⟨g, cap, cur, a, b, k.typ g cur e (0, 0) hh ht, r⟩⟩
theorem grown_set (w : World) (g i : Nat) (u : Value) : w.grownBy (w.setCell ⟨g, i, none⟩ u) (some g) :=
  ⟨rfl, rfl, rfl, by simp [World.setCell], fun b _ hne => Below.heap_setCell w ⟨g, i, none⟩ u b (fun e => hne (by rw [e]))⟩
end

/-- What stays in a maker: the choreography, the participants' names. -/
structure FC where
  c : ChorD
  AP : Option Addr
  cP : Nat
  AF : Option Addr
  cF : Nat
  AI : Option Addr
  cI : Nat
  AS : Option Addr
  cS : Nat
  ps : List ByteArray
  AG : Option Addr
  cG : Nat
def FC.cells (C : FC) (gM gN gE : Value) (e : Int) : Array Value :=
  #[.string C.c.id, .slice C.AP C.c.parts.length C.cP, .slice C.AF C.c.flows.length C.cF, .slice C.AI C.c.items.length C.cI, .slice C.AS C.c.seqs.length C.cS, .slice C.AG C.ps.length C.cG, gM, gN, gE, .int .i64 e]
/-- What is known of the world in which the first level begins: the maker's block, message flows, names. -/
structure FD (C : FC) (wB : World) (m : Nat) : Prop where
  blk : ∃ cs, Blk wB m 95 cs
  fl : Rd wB (flowsD C.c.flows) (.slice C.AF C.c.flows.length C.cF)
  ps : Rd wB (strsD C.ps) (.slice C.AG C.ps.length C.cG)
  fll : C.c.flows.length ≤ 1000000
  psl : C.ps.length ≤ 1000000
/-- The maker in a state. -/
structure FX (C : FC) (wB : World) (m : Nat) (s : FS) (gM gN gE : Value) (W : World) : Prop where
  kept : wB.grownBy W (some m)
  b : Blk W m 95 (C.cells gM gN gE s.e)
  oM : W.ownsRow wB.heap.size 9 1 gM s.msgs.length (s.msgs.map .string)
  oN : W.ownsRow wB.heap.size 55 7 gN s.nodes.length (s.nodes.flatMap nodeV)
  oE : W.ownsRow wB.heap.size 53 2 gE s.edges.length (s.edges.flatMap edgeV)
def FW (C : FC) (wB : World) (m : Nat) (s : FS) (W : World) : Prop := ∃ gM gN gE, FX C wB m s gM gN gE W
theorem grownBelow {V W W1 : World} {r : Option Nat} (h : V.grownBy W r) (hb : Below W.heap.size W W1) : V.grownBy W1 r :=
  ⟨hb.os.trans h.os, hb.tape.trans h.tape, hb.output.trans h.output, Nat.le_trans h.size hb.size, fun k hk hne => (hb.block k (Nat.lt_of_lt_of_le hk h.size)).trans (h.block k hk hne)⟩
theorem grownGrow {V W W1 : World} {r q : Option Nat} (h : V.grownBy W r) (hg : W.grownBy W1 q) (hq : ∀ k, q = some k → V.heap.size ≤ k ∨ r = some k) : V.grownBy W1 r :=
  ⟨hg.os.trans h.os, hg.tape.trans h.tape, hg.output.trans h.output, Nat.le_trans h.size hg.size, fun k hk hne => (hg.block k (Nat.lt_of_lt_of_le hk h.size) (fun e => by
    rcases hq k e.symm with h1 | h1
    · omega
    · exact hne h1.symm)).trans (h.block k hk hne)⟩
section
variable {C : FC} {wB W W1 W2 : World} {m : Nat} {s : FS} {gM gN gE : Value}
theorem FX.below (h : FX C wB m s gM gN gE W) (k : Below W.heap.size W W1) : FX C wB m s gM gN gE W1 :=
  ⟨grownBelow h.kept k, h.b.below k h.b.lt, own_below h.oM k, own_below h.oN k, own_below h.oE k⟩
theorem FW.below (h : FW C wB m s W) (k : Below W.heap.size W W1) : FW C wB m s W1 := by
  obtain ⟨gM, gN, gE, h⟩ := h
  exact ⟨gM, gN, gE, h.below k⟩
theorem FX.drew (h : FX C wB m s gM gN gE W) : FX C wB m s gM gN gE W.drew := h.below (Below.refl _ _).drew
theorem FX.alloc (h : FX C wB m s gM gN gE W) (o : Obj) : FX C wB m s gM gN gE (W.alloc o) := h.below ((Below.refl _ _).alloc (Nat.le_refl _) o)
/-- A block that is none of the maker's is turned. -/
theorem FX.turned {g : Nat} {t : TypeId} {cs : Array Value} (h : FX C wB m s gM gN gE W) (hg : W.grownBy W1 (some g)) (hb : Blk W g t cs) (hw : wB.heap.size ≤ g) (h1 : t ≠ 95) (h2 : gM.ownBlock ≠ some g) (h3 : gN.ownBlock ≠ some g) (h4 : gE.ownBlock ≠ some g) : FX C wB m s gM gN gE W1 := by
  have hne : m ≠ g := fun e => by
    have h5 := h.b
    rw [e] at h5
    have := h5.symm.trans hb
    injection this with this
    injection this with _ h6
    exact h1 h6.symm
  exact ⟨grownGrow h.kept hg (fun k hk => .inl (by injection hk with hk; omega)), h.b.grown hg (by simpa using hne), h.oM.kept hg (.inr (by simpa using h2)), h.oN.kept hg (.inr (by simpa using h3)), h.oE.kept hg (.inr (by simpa using h4))⟩
theorem FX.flows (h : FX C wB m s gM gN gE W) (hd : FD C wB m) : Rd W (flowsD C.c.flows) (.slice C.AF C.c.flows.length C.cF) := by
  obtain ⟨cs, hb⟩ := hd.blk
  exact Rd.grown h.kept hb _ _ (free_flows _ (by decide) _) hd.fl
theorem FX.names (h : FX C wB m s gM gN gE W) (hd : FD C wB m) : Rd W (strsD C.ps) (.slice C.AG C.ps.length C.cG) := by
  obtain ⟨cs, hb⟩ := hd.blk
  exact Rd.grown h.kept hb _ _ (free_strs _ (by decide) _) hd.ps
theorem FX.items (h : FX C wB m s gM gN gE W) (hd : FD C wB m) {l : List ItemD} {v : Value} (hr : Rd wB (itemsD l) v) : Rd W (itemsD l) v := by
  obtain ⟨cs, hb⟩ := hd.blk
  refine Rd.grown h.kept hb _ _ ?_ hr
  unfold itemsD datS
  rw [← itemsC_flat]
  unfold Dat.free
  exact ⟨by decide, free_itemL _ (by decide) (by decide) (by decide) (by decide) l⟩
theorem FX.seqs (h : FX C wB m s gM gN gE W) (hd : FD C wB m) {l : List SeqD} {v : Value} (hr : Rd wB (seqsD l) v) : Rd W (seqsD l) v := by
  obtain ⟨cs, hb⟩ := hd.blk
  exact Rd.grown h.kept hb _ _ (free_seqs _ (by decide) _) hr
theorem rd_of_strs {B : Nat} {v : Value} {l : List ByteArray} (h : W.ownsRow B 9 1 v l.length (l.map .string)) : Rd W (strsD l) v := by
  obtain ⟨A, c, rfl, _, _⟩ := own_slice h
  refine rd_sl.2 ⟨A, c, _, rfl, own_mono h (Nat.zero_le _), ?_⟩
  have hl : ∀ l : List ByteArray, RdL W (l.flatMap strC) (l.map .string) := by
    intro l
    induction l with
    | nil => exact rdl_nil.2 rfl
    | cons a l ih => exact rdl_cons.2 ⟨_, _, rfl, rd_str.2 rfl, ih⟩
  exact hl l
/-- Something is not there. -/
theorem FX.none_ (h : FX C wB m s gM gN gE W) (hm : m < wB.heap.size) : FX C wB m (noneF s) gM gN gE (W.setCell ⟨m, 9, none⟩ (.int .i64 6)) :=
  ⟨grownGrow h.kept (grown_set W m 9 _) (fun _ hk => .inr hk), h.b.set_ 9 _,
   ownsRow_setCell_other (a := ⟨m, 9, none⟩) h.oM (fun e => by have := (h.oM.lt m e).1; omega) _, ownsRow_setCell_other (a := ⟨m, 9, none⟩) h.oN (fun e => by have := (h.oN.lt m e).1; omega) _, ownsRow_setCell_other (a := ⟨m, 9, none⟩) h.oE (fun e => by have := (h.oE.lt m e).1; omega) _⟩
theorem FX.none_ch (h : FX C wB m s gM gN gE W) (ts : List TypeId) (ht : 95 ∈ ts) : ChT ts W (W.setCell ⟨m, 9, none⟩ (.int .i64 6)) := (ChT.refl ts W).grown (grown_set W m 9 _) h.b ht
/-- A message more. -/
theorem FX.msg {o : Obj} {id : ByteArray} {gA cap : Nat} (h : FX C wB m s gM gN gE W) (hm : m < wB.heap.size)
    (hown : W2.ownsRow wB.heap.size 9 1 (.slice (some ⟨gA, 0, none⟩) (s.msgs.length + 1) cap) (s.msgs.length + 1) (s.msgs.map .string ++ [.string id])) (hgrow : (W.alloc o).grownBy W2 gM.ownBlock) :
    FX C wB m ⟨s.msgs ++ [id], s.nodes, s.edges, s.e⟩ (.slice (some ⟨gA, 0, none⟩) (s.msgs.length + 1) cap) gN gE (W2.setCell ⟨m, 6, none⟩ (.slice (some ⟨gA, 0, none⟩) (s.msgs.length + 1) cap)) := by
  have ha := h.alloc o
  have k2 : wB.grownBy W2 (some m) := grownGrow ha.kept hgrow (fun k hk => .inl (ha.oM.lt k hk).1)
  have b2 := ha.b.grown hgrow (fun e => by have := (ha.oM.lt m e.symm).1; omega)
  have n2 := ha.oN.kept hgrow (by
    rcases hn : gN.ownBlock with _ | q
    · exact .inl rfl
    · exact .inr (fun e => own_ne ha.oN ha.oM (by decide) q hn e.symm))
  have e2 := ha.oE.kept hgrow (by
    rcases hn : gE.ownBlock with _ | q
    · exact .inl rfl
    · exact .inr (fun e => own_ne ha.oE ha.oM (by decide) q hn e.symm))
  refine ⟨grownGrow k2 (grown_set W2 m 6 _) (fun _ hk => .inr hk), b2.set_ 6 _, ?_, ownsRow_setCell_other (a := ⟨m, 6, none⟩) n2 (fun e => by have := (n2.lt m e).1; omega) _, ownsRow_setCell_other (a := ⟨m, 6, none⟩) e2 (fun e => by have := (e2.lt m e).1; omega) _⟩
  have := ownsRow_setCell_other (a := ⟨m, 6, none⟩) hown (fun e => by have := (hown.lt m e).1; omega) (.slice (some ⟨gA, 0, none⟩) (s.msgs.length + 1) cap)
  simpa using this
theorem FX.msg_ch {o : Obj} (h : FX C wB m s gM gN gE W) (hm : m < wB.heap.size) (hgrow : (W.alloc o).grownBy W2 gM.ownBlock) (u : Value) : ChT [9, 95] W (W2.setCell ⟨m, 6, none⟩ u) := by
  have ha := h.alloc o
  have b2 := ha.b.grown hgrow (fun e => by have := (ha.oM.lt m e.symm).1; omega)
  exact (((ChT.refl _ W).alloc o).row ha.oM hgrow (by decide)).grown (grown_set W2 m 6 _) b2 (by decide)
/-- A node more. -/
theorem FX.node {o : Obj} {n : NodeD} {gA cap : Nat} (h : FX C wB m s gM gN gE W) (hm : m < wB.heap.size)
    (hown : W2.ownsRow wB.heap.size 55 7 (.slice (some ⟨gA, 0, none⟩) (s.nodes.length + 1) cap) (s.nodes.length + 1) (s.nodes.flatMap nodeV ++ nodeV n)) (hgrow : (W.alloc o).grownBy W2 gN.ownBlock) :
    FX C wB m ⟨s.msgs, s.nodes ++ [n], s.edges, s.e⟩ gM (.slice (some ⟨gA, 0, none⟩) (s.nodes.length + 1) cap) gE (W2.setCell ⟨m, 7, none⟩ (.slice (some ⟨gA, 0, none⟩) (s.nodes.length + 1) cap)) := by
  have ha := h.alloc o
  have k2 : wB.grownBy W2 (some m) := grownGrow ha.kept hgrow (fun k hk => .inl (ha.oN.lt k hk).1)
  have b2 := ha.b.grown hgrow (fun e => by have := (ha.oN.lt m e.symm).1; omega)
  have n2 := ha.oM.kept hgrow (by
    rcases hn : gM.ownBlock with _ | q
    · exact .inl rfl
    · exact .inr (fun e => own_ne ha.oM ha.oN (by decide) q hn e.symm))
  have e2 := ha.oE.kept hgrow (by
    rcases hn : gE.ownBlock with _ | q
    · exact .inl rfl
    · exact .inr (fun e => own_ne ha.oE ha.oN (by decide) q hn e.symm))
  refine ⟨grownGrow k2 (grown_set W2 m 7 _) (fun _ hk => .inr hk), b2.set_ 7 _, ownsRow_setCell_other (a := ⟨m, 7, none⟩) n2 (fun e => by have := (n2.lt m e).1; omega) _, ?_, ownsRow_setCell_other (a := ⟨m, 7, none⟩) e2 (fun e => by have := (e2.lt m e).1; omega) _⟩
  have := ownsRow_setCell_other (a := ⟨m, 7, none⟩) hown (fun e => by have := (hown.lt m e).1; omega) (.slice (some ⟨gA, 0, none⟩) (s.nodes.length + 1) cap)
  simpa using this
theorem FX.node_ch {o : Obj} (h : FX C wB m s gM gN gE W) (hm : m < wB.heap.size) (hgrow : (W.alloc o).grownBy W2 gN.ownBlock) (u : Value) : ChT [55, 95] W (W2.setCell ⟨m, 7, none⟩ u) := by
  have ha := h.alloc o
  have b2 := ha.b.grown hgrow (fun e => by have := (ha.oN.lt m e.symm).1; omega)
  exact (((ChT.refl _ W).alloc o).row ha.oN hgrow (by decide)).grown (grown_set W2 m 7 _) b2 (by decide)
/-- An edge more. -/
theorem FX.edge {o : Obj} {x : Int × Int} {gA cap : Nat} (h : FX C wB m s gM gN gE W) (hm : m < wB.heap.size)
    (hown : W2.ownsRow wB.heap.size 53 2 (.slice (some ⟨gA, 0, none⟩) (s.edges.length + 1) cap) (s.edges.length + 1) (s.edges.flatMap edgeV ++ edgeV x)) (hgrow : (W.alloc o).grownBy W2 gE.ownBlock) :
    FX C wB m ⟨s.msgs, s.nodes, s.edges ++ [x], s.e⟩ gM gN (.slice (some ⟨gA, 0, none⟩) (s.edges.length + 1) cap) (W2.setCell ⟨m, 8, none⟩ (.slice (some ⟨gA, 0, none⟩) (s.edges.length + 1) cap)) := by
  have ha := h.alloc o
  have k2 : wB.grownBy W2 (some m) := grownGrow ha.kept hgrow (fun k hk => .inl (ha.oE.lt k hk).1)
  have b2 := ha.b.grown hgrow (fun e => by have := (ha.oE.lt m e.symm).1; omega)
  have n2 := ha.oM.kept hgrow (by
    rcases hn : gM.ownBlock with _ | q
    · exact .inl rfl
    · exact .inr (fun e => own_ne ha.oM ha.oE (by decide) q hn e.symm))
  have e2 := ha.oN.kept hgrow (by
    rcases hn : gN.ownBlock with _ | q
    · exact .inl rfl
    · exact .inr (fun e => own_ne ha.oN ha.oE (by decide) q hn e.symm))
  refine ⟨grownGrow k2 (grown_set W2 m 8 _) (fun _ hk => .inr hk), b2.set_ 8 _, ownsRow_setCell_other (a := ⟨m, 8, none⟩) n2 (fun e => by have := (n2.lt m e).1; omega) _, ownsRow_setCell_other (a := ⟨m, 8, none⟩) e2 (fun e => by have := (e2.lt m e).1; omega) _, ?_⟩
  have := ownsRow_setCell_other (a := ⟨m, 8, none⟩) hown (fun e => by have := (hown.lt m e).1; omega) (.slice (some ⟨gA, 0, none⟩) (s.edges.length + 1) cap)
  simpa using this
theorem FX.edge_ch {o : Obj} (h : FX C wB m s gM gN gE W) (hm : m < wB.heap.size) (hgrow : (W.alloc o).grownBy W2 gE.ownBlock) (u : Value) : ChT [53, 95] W (W2.setCell ⟨m, 8, none⟩ u) := by
  have ha := h.alloc o
  have b2 := ha.b.grown hgrow (fun e => by have := (ha.oE.lt m e.symm).1; omega)
  exact (((ChT.refl _ W).alloc o).row ha.oE hgrow (by decide)).grown (grown_set W2 m 8 _) b2 (by decide)
end
theorem Try.infoGNode : (Try.prog.info? 55).map (fun i => (i.zero, i.size, i.bytes)) = some (some (.agg #[.int .i64 0, .string ⟨#[]⟩, .int .i64 0, .int .i64 0, .int .i64 0, .int .i64 0, .bool false]), 7, 64) := by kernel_rfl
theorem Try.infoEdge : (Try.prog.info? 53).map (fun i => (i.zero, i.size, i.bytes)) = some (some (.agg #[.int .i64 0, .int .i64 0]), 2, 16) := by kernel_rfl
theorem Try.infoFStr : (Try.prog.info? 9).map (fun i => (i.zero, i.size, i.bytes)) = some (some (.string ⟨#[]⟩), 1, 16) := by kernel_rfl
end Go.Proofs.Yteoioboiniealaa
