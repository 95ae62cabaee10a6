/- Memory of a document that is changed: the choreography's block is written, its rows are copies, A region that draws its order and copies several rows (append([]T{}, s...)): each row by itself, whatever the order, joined. -/
import Derived.Test.YtljmghaplnkohaaGenL
import Derived.Test.YtljmghaplnkohaaGenP
import Derived.Test.YtljmghaplnkohaaTur
import Derived.Test.YtljmghaplnkohaaReg
import Derived.Test.YtljmghaplnkohaaGenT
namespace Go.Proofs.Ytljmghaplnkohaa
open Go.RowKit

theorem rd_nilC {w : World} {e sz : Nat} : Rd w (.sl e sz 0 []) (.slice none 0 0) := rd_sl.2 ⟨none, 0, [], rfl, World.ownsRow_nil _ _ _ _, rdl_nil.2 rfl⟩
theorem rd_litC {w : World} {cs : Array Value} {e sz n : Nat} {ds : List Dat} (h : RdL w ds cs.toList) (hn : n ≤ maxLen) (hs : cs.size = n * sz) : Rd (w.alloc (.cells cs e)) (.sl e sz n ds) (.slice (some ⟨w.heap.size, 0, none⟩) n n) :=
  rd_sl.2 ⟨_, _, _, rfl, World.ownsRow_lit (base := 0) w _ n (Nat.zero_le _) hn hs, RdL.below ((Below.refl _ _).alloc (Nat.le_refl _) _) _ _ h⟩
theorem rd_ownC {W : World} {B e sz n : Nat} {v : Value} {xs : List Value} {ds : List Dat} (h : W.ownsRow B e sz v n xs) (hl : RdL W ds xs) : Rd W (.sl e sz n ds) v := by
  obtain ⟨A, c, rfl, _, _⟩ := own_slice h
  exact rd_sl.2 ⟨A, c, xs, rfl, own_mono h (Nat.zero_le _), hl⟩
theorem rd_ownR {α : Type} {W : World} {B e sz n : Nat} {v : Value} {xs : List Value} {f : α → List Dat} {l : List α} (h : W.ownsRow B e sz v n xs) (hl : RdL W (l.flatMap f) xs) (hn : l.length = n) : Rd W (datS e sz f l) v := by
  subst hn
  exact rd_ownC h hl
theorem own_drewC {w : World} {base e size n : Nat} {v : Value} {xs : List Value} (h : w.ownsRow base e size v n xs) : w.drew.ownsRow base e size v n xs := h
/-- A row as long as its room is its block. -/
theorem blk_of_ownC {W : World} {B e sz n g : Nat} {xs : List Value} (h : W.ownsRow B e sz (.slice (some ⟨g, 0, none⟩) n n) n xs) : Blk W g e xs.toArray := by
  rcases h.2 with ⟨h', _⟩ | ⟨g', cap, cur, h', _, hg, _, _, h5, h6⟩
  · cases h'
  · injection h' with e1 _ e3
    injection e1 with e1
    injection e1 with e1 _ _
    subst e1
    subst e3
    rw [List.take_of_length_le (by simp; omega)] at h6
    rw [← h6]
    exact hg
theorem own_of_blkC {W : World} {B e sz n g : Nat} {cs : Array Value} (h : Blk W g e cs) (hB : B ≤ g) (hn : n ≤ maxLen) (hs : cs.size = n * sz) : W.ownsRow B e sz (.slice (some ⟨g, 0, none⟩) n n) n cs.toList :=
  ⟨by simpa using hs, .inr ⟨g, n, cs, rfl, hB, h, Nat.le_refl _, hn, hs, by rw [List.take_of_length_le (by simp; omega)]⟩⟩
section
variable {w W W' : World} {g : Nat}
theorem gr_refl (w : World) (r : Option Nat) : w.grownBy w r := grown_of_below (Below.refl _ _) r
theorem gr_more {r : Option Nat} (h : w.grownBy W (some g)) (k : W.grownBy W' r) (hr : ∀ q, r = some q → q = g ∨ w.heap.size ≤ q) : w.grownBy W' (some g) :=
  ⟨k.os.trans h.os, k.tape.trans h.tape, k.output.trans h.output, Nat.le_trans h.size k.size, fun b hb hne => (k.block b (Nat.lt_of_lt_of_le hb h.size) (fun e => by
    rcases hr b e.symm with rfl | hl
    · exact hne rfl
    · omega)).trans (h.block b hb hne)⟩
theorem gr_below (h : w.grownBy W (some g)) (k : Below W.heap.size W W') : w.grownBy W' (some g) := gr_more h (grown_of_below k none) (fun _ e => by cases e)
theorem gr_alloc (h : w.grownBy W (some g)) (o : Obj) : w.grownBy (W.alloc o) (some g) := gr_below h ((Below.refl _ _).alloc (Nat.le_refl _) _)
theorem gr_drew (h : w.grownBy W (some g)) : w.grownBy W.drew (some g) := gr_below h (Below.refl _ _).drew
theorem gr_set (h : w.grownBy W (some g)) (q i : Nat) (u : Value) (hq : q = g ∨ w.heap.size ≤ q) : w.grownBy (W.setCell ⟨q, i, none⟩ u) (some g) := gr_more h (grown_set W q i u) (fun _ e => by cases e; exact hq)
theorem gr_end {B : Nat} {w0 : World} (hb : Below B w0 w) (h : w.grownBy W (some g)) (hg : B ≤ g) (hB : B ≤ w.heap.size) : Below B w0 W :=
  ⟨h.os.trans hb.os, h.tape.trans hb.tape, h.output.trans hb.output, Nat.le_trans hb.size h.size, fun k hk => (h.block k (by omega) (fun e => by cases e; omega)).trans (hb.block k hk)⟩
theorem gr_cell (h : w.grownBy W (some g)) {p : Addr} (hl : p.block < w.heap.size) (hne : p.block ≠ g) : W.cell? p = w.cell? p := by
  have hb := h.block p.block hl (fun e => hne (by cases e; rfl))
  unfold World.cell?
  rw [hb]
theorem gr_blk {t : TypeId} {b : Nat} {cs : Array Value} (h : w.grownBy W (some g)) (hb : Blk w b t cs) (hne : b ≠ g) : Blk W b t cs := hb.grown h (fun e => hne (by cases e; rfl))
end
section
variable {w W : World} {g : Nat} {cs : Array Value}
theorem gr_parts (h : w.grownBy W (some g)) (hb : Blk w g 54 cs) {l : List PartD} {v : Value} (hr : Rd w (partsD l) v) : Rd W (partsD l) v := Rd.grown h hb _ _ (free_parts _ (by decide) l) hr
theorem gr_flows (h : w.grownBy W (some g)) (hb : Blk w g 54 cs) {l : List FlowD} {v : Value} (hr : Rd w (flowsD l) v) : Rd W (flowsD l) v := Rd.grown h hb _ _ (free_flows _ (by decide) l) hr
theorem gr_seqs (h : w.grownBy W (some g)) (hb : Blk w g 54 cs) {l : List SeqD} {v : Value} (hr : Rd w (seqsD l) v) : Rd W (seqsD l) v := Rd.grown h hb _ _ (free_seqs _ (by decide) l) hr
theorem gr_msgs (h : w.grownBy W (some g)) (hb : Blk w g 54 cs) {l : List PartD} {v : Value} (hr : Rd w (msgsD l) v) : Rd W (msgsD l) v := Rd.grown h hb _ _ (free_msgs _ (by decide) l) hr
theorem gr_items (h : w.grownBy W (some g)) (hb : Blk w g 54 cs) {l : List ItemD} {v : Value} (hr : Rd w (itemsD l) v) : Rd W (itemsD l) v :=
  Rd.grown h hb _ _ (by unfold itemsD datS Dat.free; rw [← itemsC_flat]; exact ⟨by decide, free_itemL _ (by decide) (by decide) (by decide) (by decide) l⟩) hr
theorem gr_itemL (h : w.grownBy W (some g)) (hb : Blk w g 54 cs) {l : List ItemD} {xs : List Value} (hr : RdL w (l.flatMap itemC) xs) : RdL W (l.flatMap itemC) xs :=
  RdL.grown h hb _ _ (by rw [← itemsC_flat]; exact free_itemL _ (by decide) (by decide) (by decide) (by decide) l) hr
theorem gr_seqL (h : w.grownBy W (some g)) (hb : Blk w g 54 cs) {l : List SeqD} {xs : List Value} (hr : RdL w (l.flatMap seqC) xs) : RdL W (l.flatMap seqC) xs :=
  RdL.grown h hb _ _ (free_flat (fun x => by unfold seqC; simp [freeL, Dat.free]) l) hr
theorem gr_flowL (h : w.grownBy W (some g)) (hb : Blk w g 54 cs) {l : List FlowD} {xs : List Value} (hr : RdL w (l.flatMap flowC) xs) : RdL W (l.flatMap flowC) xs :=
  RdL.grown h hb _ _ (free_flat (fun x => by unfold flowC; simp [freeL, Dat.free]) l) hr
theorem gr_chorL (h : w.grownBy W (some g)) (hb : Blk w g 54 cs) {x : ChorD} {xs : List Value} (hr : RdL w (chorC x) xs) : RdL W (chorC x) xs :=
  RdL.grown h hb _ _ (free_chor _ (by decide) (by decide) (by decide) (by decide) (by decide) (by decide) x) hr
end
/-- A row's element is another. -/
theorem elem_set {α : Type} {W : World} {sz : Nat} {f : α → List Dat} (hf : ∀ x, (f x).length = sz) {y : α} {k : Nat} {u : Value} (hk : k < sz) : ∀ (l : List α) (j : Nat) (hj : j < l.length) (xs : List Value), (∀ vs, RdL W (f l[j]) vs → RdL W (f y) (vs.set k u)) → RdL W (l.flatMap f) xs → RdL W ((l.set j y).flatMap f) (xs.set (j * sz + k) u)
  | x :: l, 0, _, xs, hy, h => by
    rw [List.flatMap_cons] at h
    obtain ⟨a, b, rfl, ha, hb⟩ := h.split
    have hl := ha.len
    rw [hf] at hl
    rw [List.set_cons_zero, List.flatMap_cons, Nat.zero_mul, Nat.zero_add, List.set_append_left _ _ (by omega)]
    exact RdL.append (hy a ha) hb
  | x :: l, j + 1, hj, xs, hy, h => by
    rw [List.flatMap_cons] at h
    obtain ⟨a, b, rfl, ha, hb⟩ := h.split
    have hl := ha.len
    rw [hf] at hl
    rw [List.set_cons_succ, List.flatMap_cons, List.set_append_right _ _ (by rw [hl, Nat.succ_mul]; omega), hl, show (j + 1) * sz + k - sz = j * sz + k by rw [Nat.succ_mul]; omega]
    exact RdL.append ha (elem_set hf hk l j (by simpa using hj) b hy hb)
/-- One choreography in its block, and those behind it. -/
theorem chors_blk {W : World} {g : Nat} {c : ChorD} {r : List ChorD} {vP vF vI vS : Value} {xs : List Value} {n : Nat} (hb : Blk W g 54 (#[.string c.id, vP, vF, vI, vS] ++ xs.toArray)) (hn : n = r.length + 1) (hm : n ≤ maxLen)
    (hP : Rd W (partsD c.parts) vP) (hF : Rd W (flowsD c.flows) vF) (hI : Rd W (itemsD c.items) vI) (hS : Rd W (seqsD c.seqs) vS) (hr : RdL W (r.flatMap chorC) xs) : Rd W (chorsD (c :: r)) (.slice (some ⟨g, 0, none⟩) n n) := by
  have hl := hr.len
  have hlen : (r.flatMap chorC).length = r.length * 5 := by
    rw [List.length_flatMap]
    have : ∀ l : List ChorD, (l.map fun a => (chorC a).length).sum = l.length * 5 := fun l => by
      induction l with
      | nil => rfl
      | cons x l ih => rw [List.map_cons, List.sum_cons, ih, chorC_len, List.length_cons]; omega
    exact this r
  refine rd_ownR (own_of_blkC (B := 0) (sz := 5) hb (Nat.zero_le _) hm (by simp; omega)) ?_ (by simp [hn])
  rw [List.flatMap_cons, show (#[Value.string c.id, vP, vF, vI, vS] ++ xs.toArray).toList = [Value.string c.id, vP, vF, vI, vS] ++ xs by simp]
  exact RdL.append (rd_chorC.2 ⟨vP, vF, vI, vS, rfl, hP, hF, hI, hS⟩) hr
end Go.Proofs.Ytljmghaplnkohaa
namespace Go.Proofs.Ytljmghaplnkohaa
open Go.RowKit

def canonB (N n : Nat) (U : List Nat) : Array Bool := ((List.range N).map fun j => decide (j < n) && !U.contains j).toArray
def updV (vs : Nat → Value) (i : Nat) (v : Value) : Nat → Value := fun j => if j = i then v else vs j
def waitsB (md : Region.Mode) (ops : Array Oper) (i j : Nat) : Bool := ((ops[i]?).map fun o => o.after.any fun e => Region.binds md e && e.on == j).getD false
def freeB (md : Region.Mode) (ops : Array Oper) (n : Nat) (rs : List Nat) (deps : Nat → List Nat) : Bool :=
  decide (n ≤ ops.size) && (rs.all fun i => decide (i < n) && ((ops[i]?).map fun o => o.after.all fun e => !Region.binds md e || decide (e.on < i)).getD false) &&
    (rs.all fun i => (deps i).all fun j => waitsB md ops i j) &&
    ((List.range ops.size).all fun t => decide (t < n) || rs.all fun i => waitsB md ops t i || rs.any fun j => waitsB md ops t j && waitsB md ops j i)
theorem canon_get {N n : Nat} {U : List Nat} {j : Nat} (b : Bool) (h : j < N) : (canonB N n U).getD j b = (decide (j < n) && !U.contains j) := by
  unfold canonB
  rw [Array.getD_eq_getD_getElem?, List.getElem?_toArray, List.getElem?_map, List.getElem?_range h]
  rfl
theorem min_mem : ∀ {U : List Nat}, U ≠ [] → ∃ m ∈ U, ∀ j ∈ U, m ≤ j
  | [], h => absurd rfl h
  | [a], _ => ⟨a, by simp, by simp⟩
  | a :: b :: l, _ => by
    obtain ⟨m, hm, hle⟩ := min_mem (U := b :: l) (by simp)
    rcases Nat.le_total a m with h | h
    · exact ⟨a, by simp, fun j hj => by rcases List.mem_cons.1 hj with rfl | hj; exact Nat.le_refl _; exact Nat.le_trans h (hle j hj)⟩
    · exact ⟨m, List.mem_cons_of_mem _ hm, fun j hj => by rcases List.mem_cons.1 hj with rfl | hj; exact h; exact hle j hj⟩
theorem canon_set {N n : Nat} {U : List Nat} {i : Nat} (hU : U.Nodup) (hin : i < n) : (canonB N n U).setIfInBounds i true = canonB N n (U.erase i) := by
  apply Array.ext_getElem?
  intro j
  have hsz : ∀ U, (canonB N n U)[j]? = if j < N then some (decide (j < n) && !U.contains j) else none := fun U => by
    unfold canonB
    rw [List.getElem?_toArray, List.getElem?_map]
    by_cases h : j < N
    · rw [List.getElem?_range h, if_pos h]; rfl
    · rw [List.getElem?_eq_none (by simp; omega), if_neg h]; rfl
  have hs : (canonB N n U).size = N := by simp [canonB]
  rw [Array.getElem?_setIfInBounds, hsz, hsz, hs]
  by_cases hji : i = j
  · subst hji
    have : i ∉ U.erase i := fun h => ((List.Nodup.mem_erase_iff hU).1 h).1 rfl
    simp [hin, this]
  · have : j ∈ U.erase i ↔ j ∈ U := List.mem_erase_of_ne (Ne.symm hji)
    simp [hji, this]
section
variable {P : Program} {ops : Array Oper} {Q : Exit → Act → World → Prop} {md : Region.Mode} {S : World → Prop}
theorem waits_ready {i j : Nat} {listed : Array Bool} (h : waitsB md ops i j = true) (hr : i ∈ Region.ready md ops listed) : listed.getD j false = true := by
  obtain ⟨_, o, ho, hall⟩ := mem_ready.1 hr
  unfold waitsB at h
  rw [ho] at h
  simp only [Option.map_some, Option.getD_some] at h
  obtain ⟨k, hk, he⟩ := Array.any_eq_true.1 h
  simp only [Bool.and_eq_true, beq_iff_eq] at he
  rw [← he.2]
  exact hall _ (Array.getElem_mem hk) he.1
theorem wpHT_free {n n' f0 : Nat} {L : Array Bool → Act → World → Prop} (A : (Nat → Value) → Act) (rs : List Nat) (deps : Nat → List Nat) (I : List Nat → (Nat → Value) → World → Prop)
    (hnd : rs.Nodup) (hB : freeB md ops n' rs deps = true) (hn : n' ≤ n) (hS : ∀ U vs w, I U vs w → S w)
    (hstep : ∀ i ∈ rs, ∀ U vs w (K : Act → World → Prop), U.Nodup → i ∈ U → (∀ j ∈ deps i, j ∉ U) → I U vs w → (∀ v w', I (U.erase i) (updV vs i v) w' → K (A (updV vs i v)) w') → wpOp P ops Q i K (A vs) w)
    (hend : ∀ vs w, I [] vs w → wpHT P md ops Q S n L f0 (canonB ops.size n' []) (A vs) w) :
    ∀ (f : Nat) (U : List Nat) (vs : Nat → Value) (w : World), U.Sublist rs → (∀ j ∈ rs, j ∉ U → ∀ u, waitsB md ops j u = true → u ∉ U) → U.length = f → I U vs w → wpHT P md ops Q S n L (f0 + f) (canonB ops.size n' U) (A vs) w
  | 0, U, vs, w, _, _, hl, hi => by
    obtain rfl := List.eq_nil_of_length_eq_zero hl
    exact hend vs w hi
  | f + 1, U, vs, w, hs, huc, hl, hi => by
    have hB' := hB
    unfold freeB at hB'
    simp only [Bool.and_eq_true, decide_eq_true_eq] at hB'
    obtain ⟨⟨⟨b1, b2⟩, b3⟩, b4⟩ := hB'
    have hUne : U ≠ [] := fun e => by rw [e] at hl; simp at hl
    have hUn : U.Nodup := hnd.sublist hs
    have hrsn : ∀ i ∈ rs, i < n' := fun i h => by
      have := List.all_eq_true.1 b2 i h
      simp only [Bool.and_eq_true, decide_eq_true_eq] at this
      exact this.1
    obtain ⟨m, hm, hmin⟩ := min_mem hUne
    have hmr : m ∈ Region.ready md ops (canonB ops.size n' U) := by
      have hmn := hrsn m (hs.subset hm)
      have h2 := List.all_eq_true.1 b2 m (hs.subset hm)
      simp only [Bool.and_eq_true] at h2
      have hms : m < ops.size := by omega
      have ho : ops[m]? = some ops[m] := Array.getElem?_eq_getElem hms
      rw [ho] at h2
      simp only [Option.map_some, Option.getD_some] at h2
      refine mem_ready.2 ⟨by rw [canon_get _ hms]; simp [hm], ops[m], ho, fun e he hb => ?_⟩
      have h3 := Array.all_eq_true'.1 h2.2 e he
      rw [hb] at h3
      have hlt : e.on < m := by simpa using h3
      rw [canon_get _ (by omega)]
      have : e.on ∉ U := fun h => by have := hmin _ h; omega
      simp [this]
      omega
    have hin : ∀ i ∈ Region.ready md ops (canonB ops.size n' U), i ∈ U := fun i hir => by
      obtain ⟨h1, o, ho, _⟩ := mem_ready.1 hir
      have his : i < ops.size := (Array.getElem?_eq_some_iff.1 ho).1
      rw [canon_get _ his] at h1
      by_cases hiU : i ∈ U
      · exact hiU
      · exfalso
        have hni : ¬ i < n' := by simpa [hiU] using h1
        have h4 := List.all_eq_true.1 b4 i (List.mem_range.2 his)
        simp only [hni, decide_false, Bool.false_or] at h4
        have h5 := List.all_eq_true.1 h4 m (hs.subset hm)
        have hmN : m < ops.size := by have := hrsn m (hs.subset hm); omega
        rcases Bool.or_eq_true_iff.1 h5 with h5 | h5
        · have := waits_ready h5 hir
          rw [canon_get _ hmN] at this
          simp [hm] at this
        · obtain ⟨j, hj, hjj⟩ := List.any_eq_true.1 h5
          simp only [Bool.and_eq_true] at hjj
          have hjN : j < ops.size := by have := hrsn j hj; omega
          have := waits_ready hjj.1 hir
          rw [canon_get _ hjN] at this
          have hjU : j ∉ U := by simp at this; exact this.2
          exact huc j hj hjU m hjj.2 hm
    refine ⟨fun e => by rw [e] at hmr; simp at hmr, fun i hir => ?_⟩
    have hiU := hin i hir
    have hir' := hs.subset hiU
    have hlisted : ∀ u, waitsB md ops i u = true → u ∉ U := fun u hu huU => by
      have huN : u < ops.size := by have := hrsn u (hs.subset huU); omega
      have := waits_ready hu hir
      rw [canon_get _ huN] at this
      simp [huU] at this
    refine ⟨by have := hrsn i hir'; omega, hstep i hir' U vs w _ hUn hiU (fun j hj => ?_) hi (fun v w' hI => ⟨hS _ _ _ hI, ?_⟩)⟩
    · exact hlisted j (List.all_eq_true.1 (List.all_eq_true.1 b3 i hir') j hj)
    · rw [canon_set hUn (hrsn i hir')]
      refine wpHT_free A rs deps I hnd hB hn hS hstep hend f (U.erase i) _ w' ((List.erase_sublist).trans hs) (fun j hj hjn u hu huU => ?_) (by rw [List.length_erase_of_mem hiU, hl]; rfl) hI
      have huU' := List.mem_of_mem_erase huU
      by_cases hji : j = i
      · subst hji; exact hlisted u hu huU'
      · exact huc j hj (fun h => hjn ((List.mem_erase_of_ne hji).2 h)) u hu huU'
end
/-- A row to be copied: where it is loaded, where the empty row is made, where it is appended to; the element's type and size. -/
structure Copy where
  il : Nat
  ia : Nat
  ib : Nat
  e : TypeId
  sz : Nat
def copyRs (cs : List Copy) : List Nat := cs.flatMap fun c => [c.il, c.ia, c.ib]
def copyDeps (cs : List Copy) (i : Nat) : List Nat := (cs.filter fun c => c.ib == i).flatMap fun c => [c.il, c.ia]
def putsV (ds : List (Nat × Nat)) (a : Act) (vs : Nat → Value) : Act := ds.foldl (fun a p => a.put (some p.1) (vs p.2)) a
def copyB (cs : List Copy) : Bool := cs.all fun c => c.il != c.ia && c.il != c.ib && c.ia != c.ib && cs.all fun c' => c.e == c'.e && c.il == c'.il && c.ia == c'.ia && c.ib == c'.ib && c.sz == c'.sz || (c.e != c'.e && c.il != c'.il && c.il != c'.ia && c.il != c'.ib && c.ia != c'.ia && c.ia != c'.ib && c.ib != c'.ib)
theorem copy_spec {cs : List Copy} (h : copyB cs = true) : ∀ c ∈ cs, (c.il ≠ c.ia ∧ c.il ≠ c.ib ∧ c.ia ≠ c.ib) ∧ ∀ c' ∈ cs, c = c' ∨ (c.e ≠ c'.e ∧ c.il ≠ c'.il ∧ c.il ≠ c'.ia ∧ c.il ≠ c'.ib ∧ c.ia ≠ c'.ia ∧ c.ia ≠ c'.ib ∧ c.ib ≠ c'.ib) := fun c hc => by
  have h1 := List.all_eq_true.1 h c hc
  simp only [Bool.and_eq_true, bne_iff_ne, ne_eq] at h1
  refine ⟨⟨h1.1.1.1, h1.1.1.2, h1.1.2⟩, fun c' hc' => ?_⟩
  have h2 := List.all_eq_true.1 h1.2 c' hc'
  simp only [Bool.or_eq_true, Bool.and_eq_true, beq_iff_eq, bne_iff_ne, ne_eq] at h2
  rcases h2 with h2 | h2
  · obtain ⟨⟨⟨⟨e1, e2⟩, e3⟩, e4⟩, e5⟩ := h2
    left
    cases c; cases c'
    simp_all
  · exact .inr ⟨h2.1.1.1.1.1.1, h2.1.1.1.1.1.2, h2.1.1.1.1.2, h2.1.1.1.2, h2.1.1.2, h2.1.2, h2.2⟩
section
variable {P : Program} {l : List Oper} {Q : Exit → Act → World → Prop} {md : Region.Mode} {S : World → Prop}
theorem ht_copies (cs : List Copy) (ds : List (Nat × Nat)) {n f0 f : Nat} {L : Array Bool → Act → World → Prop} (n' : Nat) {listed : Array Bool} {a : Act} {w0 w : World} (src : Nat → Value) (N : Nat → Nat) (xs : Nat → List Value)
    (hl : listed = canonB l.toArray.size n' (copyRs cs)) (hf : f = f0 + (copyRs cs).length) (ha : putsV ds a (fun _ => undef) = a)
    (hnd : (copyRs cs).Nodup) (hok : copyB cs = true) (hB : freeB md l.toArray n' (copyRs cs) (copyDeps cs) = true) (hn : n' ≤ n)
    (hS : ∀ W, Below w0.heap.size w0 W → S W) (h0 : Below w0.heap.size w0 w)
    (hL : ∀ c ∈ cs, ∀ vs W (K : Act → World → Prop), Below w0.heap.size w0 W → Hid (K (putsV ds a (updV vs c.il (src c.ib))) W) → wpOp P l.toArray Q c.il K (putsV ds a vs) W)
    (hA : ∀ c ∈ cs, ∀ vs W (K : Act → World → Prop), Hid (K (putsV ds a (updV vs c.ia (.slice (some ⟨W.heap.size, 0, none⟩) 0 0))) (W.alloc (.cells #[] c.e))) → wpOp P l.toArray Q c.ia K (putsV ds a vs) W)
    (hApp : ∀ c ∈ cs, ∀ vs W (K : Act → World → Prop), Below w0.heap.size w0 W → vs c.il = src c.ib → W.ownsRow w0.heap.size c.e c.sz (vs c.ia) 0 [] →
      Hid (∀ v W', W'.ownsRow w0.heap.size c.e c.sz v (N c.ib) (xs c.ib) → W.grownBy W' (vs c.ia).ownBlock → K (putsV ds a (updV vs c.ib v)) W') → wpOp P l.toArray Q c.ib K (putsV ds a vs) W)
    (hend : ∀ vs W, Below w0.heap.size w0 W → (∀ c ∈ cs, vs c.il = src c.ib ∧ W.ownsRow w0.heap.size c.e c.sz (vs c.ib) (N c.ib) (xs c.ib)) → wpHT P md l.toArray Q S n L f0 (canonB l.toArray.size n' []) (putsV ds a vs) W) :
    wpHT P md l.toArray Q S n L f listed a w := by
  subst hl
  subst hf
  have hsp := copy_spec hok
  have inL : ∀ y ∈ cs, y.il ∈ copyRs cs := fun y hy => List.mem_flatMap.2 ⟨y, hy, by simp⟩
  have inA : ∀ y ∈ cs, y.ia ∈ copyRs cs := fun y hy => List.mem_flatMap.2 ⟨y, hy, by simp⟩
  have inB : ∀ y ∈ cs, y.ib ∈ copyRs cs := fun y hy => List.mem_flatMap.2 ⟨y, hy, by simp⟩
  have up : ∀ (vs : Nat → Value) (i j : Nat) (v : Value), j ≠ i → updV vs i v j = vs j := fun vs i j v h => by unfold updV; rw [if_neg h]
  have ups : ∀ (vs : Nat → Value) (i : Nat) (v : Value), updV vs i v i = v := fun vs i v => by unfold updV; rw [if_pos rfl]
  have key := wpHT_free (P := P) (ops := l.toArray) (Q := Q) (md := md) (S := S) (n := n) (n' := n') (f0 := f0) (L := L) (putsV ds a) (copyRs cs) (copyDeps cs)
    (fun U vs W => Below w0.heap.size w0 W ∧ ∀ c ∈ cs, (c.il ∉ U → vs c.il = src c.ib) ∧ (c.ib ∉ U → W.ownsRow w0.heap.size c.e c.sz (vs c.ib) (N c.ib) (xs c.ib)) ∧ (c.ia ∉ U → c.ib ∈ U → W.ownsRow w0.heap.size c.e c.sz (vs c.ia) 0 []))
    hnd hB hn (fun U vs W h => hS W h.1) ?_ (fun vs W h => hend vs W h.1 (fun c hc => ⟨(h.2 c hc).1 (by simp), (h.2 c hc).2.1 (by simp)⟩)) _ (copyRs cs) (fun _ => undef) w (List.Sublist.refl _) (fun j hj h => absurd hj h) rfl ?_
  · rw [ha] at key
    exact key
  · intro i hi U vs W K hUn hiU hdep hI hK
    obtain ⟨hb, hc⟩ := hI
    obtain ⟨c, hcc, hi⟩ := List.mem_flatMap.1 hi
    simp only [List.mem_cons, List.not_mem_nil, or_false] at hi
    obtain ⟨⟨d1, d2, d3⟩, hd⟩ := hsp c hcc
    rcases hi with rfl | rfl | rfl
    · refine hL c hcc vs W K hb (Lib.hid (hK _ _ ⟨hb, fun c' hc' => ⟨fun hn => ?_, fun hn => ?_, fun hn hm => ?_⟩⟩))
      · rcases hd c' hc' with rfl | hne
        · exact ups _ _ _
        · rw [up _ _ _ _ (Ne.symm hne.2.1)]
          exact (hc c' hc').1 (fun h => hn ((List.mem_erase_of_ne (Ne.symm hne.2.1)).2 h))
      · have hne : c'.ib ≠ c.il := by rcases hd c' hc' with rfl | hne; exact Ne.symm d2; exact Ne.symm hne.2.2.2.1
        rw [up _ _ _ _ hne]
        exact (hc c' hc').2.1 (fun h => hn ((List.mem_erase_of_ne hne).2 h))
      · have hne : c'.ia ≠ c.il := by rcases hd c' hc' with rfl | hne; exact Ne.symm d1; exact Ne.symm hne.2.2.1
        rw [up _ _ _ _ hne]
        exact (hc c' hc').2.2 (fun h => hn ((List.mem_erase_of_ne hne).2 h)) (List.mem_of_mem_erase hm)
    · refine hA c hcc vs W K (Lib.hid (hK _ _ ⟨hb.alloc hb.size _, fun c' hc' => ⟨fun hn => ?_, fun hn => ?_, fun hn hm => ?_⟩⟩))
      · have hne : c'.il ≠ c.ia := by
          rcases hd c' hc' with rfl | _
          · exact d1
          · rcases (hsp c' hc').2 c hcc with rfl | h
            · exact d1
            · exact h.2.2.1
        rw [up _ _ _ _ hne]
        exact (hc c' hc').1 (fun h => hn ((List.mem_erase_of_ne hne).2 h))
      · have hne : c'.ib ≠ c.ia := by
          rcases hd c' hc' with rfl | hne
          · exact Ne.symm d3
          · exact Ne.symm hne.2.2.2.2.2.1
        rw [up _ _ _ _ hne]
        exact ((hc c' hc').2.1 (fun h => hn ((List.mem_erase_of_ne hne).2 h))).alloc _
      · rcases hd c' hc' with rfl | hne
        · rw [ups]
          exact World.ownsRow_lit (base := w0.heap.size) W #[] 0 hb.size (by decide) (by simp)
        · rw [up _ _ _ _ (Ne.symm hne.2.2.2.2.1)]
          exact ((hc c' hc').2.2 (fun h => hn ((List.mem_erase_of_ne (Ne.symm hne.2.2.2.2.1)).2 h)) (List.mem_of_mem_erase hm)).alloc _
    · have hdl : c.il ∉ U := hdep c.il (List.mem_flatMap.2 ⟨c, List.mem_filter.2 ⟨hcc, by simp⟩, by simp⟩)
      have hia : c.ia ∉ U := hdep c.ia (List.mem_flatMap.2 ⟨c, List.mem_filter.2 ⟨hcc, by simp⟩, by simp⟩)
      have hown := (hc c hcc).2.2 hia hiU
      refine hApp c hcc vs W K hb ((hc c hcc).1 hdl) hown (Lib.hid (fun v W' ho hg => hK _ _ ⟨hb.grown hg hb.size (fun j hj => (hown.lt j hj).1), fun c' hc' => ⟨fun hn => ?_, fun hn => ?_, fun hn hm => ?_⟩⟩))
      · have hne : c'.il ≠ c.ib := by
          rcases hd c' hc' with rfl | _
          · exact d2
          · rcases (hsp c' hc').2 c hcc with rfl | h
            · exact d2
            · exact h.2.2.2.1
        rw [up _ _ _ _ hne]
        exact (hc c' hc').1 (fun h => hn ((List.mem_erase_of_ne hne).2 h))
      · rcases hd c' hc' with rfl | hne
        · rw [ups]; exact ho
        · rw [up _ _ _ _ (Ne.symm hne.2.2.2.2.2.2)]
          have h := (hc c' hc').2.1 (fun h => hn ((List.mem_erase_of_ne (Ne.symm hne.2.2.2.2.2.2)).2 h))
          exact h.kept hg (own_own_ne h hown (Ne.symm hne.1))
      · rcases hd c' hc' with rfl | hne0
        · exact absurd rfl ((List.Nodup.mem_erase_iff hUn).1 hm).1
        · have hne : c'.ia ≠ c.ib := by
            rcases (hsp c' hc').2 c hcc with rfl | h
            · exact absurd rfl hne0.1
            · exact h.2.2.2.2.2.1
          rw [up _ _ _ _ hne]
          have h := (hc c' hc').2.2 (fun h => hn ((List.mem_erase_of_ne hne).2 h)) (List.mem_of_mem_erase hm)
          exact h.kept hg (own_own_ne h hown (Ne.symm hne0.1))
  · exact ⟨h0, fun c hc => ⟨fun h => absurd (inL c hc) h, fun h => absurd (inB c hc) h, fun h => absurd (inA c hc) h⟩⟩
/-- One operation of the copies, opened. -/
theorem wpOp_at {o : Oper} {i : Nat} {K : Act → World → Prop} {a : Act} {w : World} (ho : opAt l i = some o) (h : if Region.wanted o (yielded l.toArray a.tmps) = true then o.wp P a w K Q else K (a.put o.dst undef) w) : wpOp P l.toArray Q i K a w := by
  rw [opAt_spec] at ho
  unfold wpOp
  simp only [ho]
  split
  · rename_i hw
    rw [if_pos hw] at h
    exact .inl h
  · rename_i hw
    rw [if_neg hw] at h
    exact h
end
end Go.Proofs.Ytljmghaplnkohaa
