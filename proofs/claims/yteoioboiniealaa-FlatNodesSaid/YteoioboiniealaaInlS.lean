/- The law InlineCalls: what inline makes of a nested document. -/
import Derived.Test.YteoioboiniealaaGenP
import Derived.Test.YteoioboiniealaaGenM
import Derived.Test.YteoioboiniealaaMovA
import Derived.Test.YteoioboiniealaaInlL
namespace Go.Proofs.Yteoioboiniealaa
open Go.RowKit

theorem em_append (s : ByteArray) : (⟨#[]⟩ : ByteArray) ++ s = s := ByteArray.empty_append
theorem who_map (l : List ByteArray) : l.map (whoF []) = l := by
  induction l with
  | nil => rfl
  | cons a l ih => rw [List.map_cons, ih]; rfl
theorem seq_map (l : List SeqD) : l.map (seqF ⟨#[]⟩) = l := by
  induction l with
  | nil => rfl
  | cons a l ih =>
    rw [List.map_cons, ih]
    show (⟨(⟨#[]⟩ : ByteArray) ++ a.id, (⟨#[]⟩ : ByteArray) ++ a.src, (⟨#[]⟩ : ByteArray) ++ a.dst⟩ : SeqD) :: l = _
    rw [em_append, em_append, em_append]
theorem chain_map (l : List MapD) : l.map (chainF []) = l := by
  induction l with
  | nil => rfl
  | cons a l ih => rw [List.map_cons, ih]; rfl
theorem moved_id {x : ItemD} (h : PlainI x) : movedF ⟨#[]⟩ [] x = x := by
  obtain ⟨h1, h2, h3, h4, h5, h6, h7, h8, h9, h10⟩ := h
  obtain ⟨kind, id, first, parts, flows, loop, called, maps, items, seqs⟩ := x
  simp only at h3 h7 h8 h9 h10
  subst h7 h8 h9 h10
  unfold movedF
  simp only [em_append, who_map, List.map_id']
  have : (if kind = 3 then whoF [] first else ⟨#[]⟩) = first := by
    split
    · rfl
    · rename_i hk; exact (h3 hk).symm
  rw [this]
theorem moved_ids {l : List ItemD} (h : ∀ x ∈ l, PlainI x) : l.map (movedF ⟨#[]⟩ []) = l := by
  induction l with
  | nil => rfl
  | cons a l ih => rw [List.map_cons, ih (fun x hx => h x (List.mem_cons_of_mem _ hx)), moved_id (h a (List.mem_cons_self ..))]
theorem one_plain {d : DocD} {f : Nat} {p : ByteArray} {ms : List MapD} {op : List ByteArray} {s : MkS} {x : ItemD} (h : PlainI x) : oneG d (itemsF d (f + 1)) p ms op s x = some (movedF p ms x, s) := by
  have hk : x.kind ≠ 8 := by have := h.kind; omega
  unfold oneG
  rw [if_neg hk, h.items]
  show some (itemF p ms x [], s) = _
  unfold itemF movedF
  rw [h.seqs]
  rfl
theorem step_ok {s : MkS} (h : s.n + 1 ≤ 400) : stepS s = ⟨s.flows, s.n + 1, s.e⟩ := by unfold stepS; rw [if_neg (by omega)]
/-- Plain items ahead of others. -/
theorem items_plain {d : DocD} {f : Nat} {p : ByteArray} {ms : List MapD} {op : List ByteArray} : ∀ (l r : List ItemD) (s : MkS) (out : List ItemD), (∀ x ∈ l, PlainI x) → s.e = 0 → s.n + l.length ≤ 400 →
    itemsG (oneG d (itemsF d (f + 1)) p ms op) (l ++ r) s out = itemsG (oneG d (itemsF d (f + 1)) p ms op) r ⟨s.flows, s.n + l.length, 0⟩ (out ++ l.map (movedF p ms))
  | [], r, s, out, _, he, _ => by
    obtain ⟨fl, n, e⟩ := s
    simp only at he
    subst he
    simp
  | x :: l, r, s, out, h, he, hn => by
    have hn1 : s.n + 1 ≤ 400 := by simp at hn; omega
    rw [List.cons_append, itemsG_go (by rw [step_ok hn1]; exact he), step_ok hn1, one_plain (h x (List.mem_cons_self ..))]
    simp only
    rw [items_plain l r ⟨s.flows, s.n + 1, s.e⟩ _ (fun y hy => h y (List.mem_cons_of_mem _ hy)) he (by simp at hn ⊢; omega)]
    simp only [List.map_cons, List.append_assoc, List.cons_append, List.nil_append, List.length_cons]
    congr 2
    omega
theorem items_plain_all {d : DocD} {f : Nat} {p : ByteArray} {ms : List MapD} {op : List ByteArray} (l : List ItemD) (s : MkS) (out : List ItemD) (h : ∀ x ∈ l, PlainI x) (he : s.e = 0) (hn : s.n + l.length ≤ 400) :
    itemsG (oneG d (itemsF d (f + 1)) p ms op) l s out = some (out ++ l.map (movedF p ms), ⟨s.flows, s.n + l.length, 0⟩) := by
  have := items_plain (d := d) (f := f) (p := p) (ms := ms) (op := op) l [] s out h he hn
  rw [List.append_nil, itemsG_nil] at this
  exact this

def sCall : ByteArray := ⟨#[99, 97, 108, 108]⟩
def sPath : ByteArray := ⟨#[99, 97, 108, 108, 46]⟩
def sD : ByteArray := ⟨#[100]⟩
theorem eqS_cd : eqS sC sD = false := by decide +kernel
theorem eqS_refl (s : ByteArray) : eqS s s = true := by simp [eqS]
/-- What a call comes to, by what is called. -/
def calledF (x : ChorD) (ms : List MapD) : ItemD := ⟨7, sCall, ⟨#[]⟩, [], [], false, ⟨#[]⟩, [], x.items.map (movedF sPath ms), x.seqs.map (seqF sPath)⟩
def wantI (x : ChorD) (y : ItemD) : ItemD := if y.kind = 8 then calledF x y.maps else y
def wantFl (x : ChorD) (y : ItemD) : List FlowD := if y.kind = 8 then x.flows.map (flowF sPath y.maps) else []
/-- What the law wants. -/
def wantC (c x : ChorD) : ChorD := ⟨sC, c.parts, c.flows ++ c.items.flatMap (wantFl x), c.items.map (wantI x), c.seqs⟩

section
variable {c x : ChorD} {m : MkD} {ms : List MapD}
/-- The call. -/
def callX (ms : List MapD) : ItemD := ⟨8, sCall, ⟨#[]⟩, [], [], false, sD, ms, [], []⟩
def nestX (c0 x : ChorD) (parts : List PartD) (ms : List MapD) (m : MkD) (sq : List SeqD) : DocD := ⟨gmsgsF, [⟨sC, parts, c0.flows ++ m.flows, c0.items ++ [callX ms, gsubF m], sq⟩, ⟨sD, x.parts, x.flows, x.items, x.seqs⟩]⟩
end
theorem plain_kinds {l : List ItemD} (h : ∀ x ∈ l, PlainI x) (x : ChorD) : l.map (wantI x) = l ∧ l.flatMap (wantFl x) = [] := by
  induction l with
  | nil => exact ⟨rfl, rfl⟩
  | cons a l ih =>
    obtain ⟨h1, h2⟩ := ih (fun x hx => h x (List.mem_cons_of_mem _ hx))
    have hk : a.kind ≠ 8 := by have := (h a (List.mem_cons_self ..)).kind; omega
    exact ⟨by rw [List.map_cons, h1]; unfold wantI; rw [if_neg hk], by rw [List.flatMap_cons, h2]; unfold wantFl; rw [if_neg hk]; rfl⟩
theorem nest_find (c0 x : ChorD) (parts : List PartD) (ms : List MapD) (m : MkD) (sq : List SeqD) : findFrom (fun c : ChorD => eqS c.id (callX ms).called) (nestX c0 x parts ms m sq).chors 0 = 1 := by
  show (if eqS sC sD = true then ((0 : Nat) : Int) else if eqS sD sD = true then ((0 + 1 : Nat) : Int) else -1) = 1
  rw [eqS_cd, eqS_refl]
  rfl
theorem nest_items (c0 x : ChorD) (parts : List PartD) (ms : List MapD) (m : MkD) (sq : List SeqD) (hc : ∀ y ∈ c0.items, PlainI y) (hx : ∀ y ∈ x.items, PlainI y) (hm : ∀ y ∈ m.items, PlainI y) (h1 : (x.items.filter (fun y => y.kind == 2)).length = 1)
    (hn : c0.items.length ≤ 108 ∧ x.items.length ≤ 108 ∧ m.items.length ≤ 100) :
    ∃ n : Int, n ≤ 400 ∧ itemsF (nestX c0 x parts ms m sq) 3 ⟨#[]⟩ [] [sC] (c0.items ++ [callX ms, gsubF m]) ⟨c0.flows ++ m.flows, 0, 0⟩ = some (c0.items ++ [calledF x ms, gsubF m], ⟨c0.flows ++ m.flows ++ x.flows.map (flowF sPath ms), n, 0⟩) := by
  obtain ⟨d, hd⟩ : ∃ d, d = nestX c0 x parts ms m sq := ⟨_, rfl⟩
  have hcall : ∀ s : MkS, s.e = 0 → s.n ≤ 110 → 0 ≤ s.n → oneG d (itemsF d 2) ⟨#[]⟩ [] [sC] s (callX ms) = some (calledF x ms, ⟨s.flows ++ x.flows.map (flowF sPath ms), s.n + x.items.length, 0⟩) := by
    intro s he hs hs0
    unfold oneG
    rw [if_pos (show (callX ms).kind = 8 from rfl)]
    unfold callG
    have hf : findFrom (fun c : ChorD => eqS c.id (callX ms).called) d.chors 0 = 1 := by rw [hd]; exact nest_find c0 x parts ms m sq
    have hop : ¬ ([sC].any (eqS · (callX ms).called)) = true := by show ¬ (eqS sC sD || false) = true; rw [eqS_cd]; decide
    rw [hf, if_neg (by decide), if_neg hop]
    have hg : d.chors[(1 : Int).toNat]? = some ⟨sD, x.parts, x.flows, x.items, x.seqs⟩ := by rw [hd]; rfl
    rw [hg]
    simp only
    rw [h1, if_neg (by decide)]
    have hp : (⟨#[]⟩ : ByteArray) ++ (callX ms).id ++ dotS = sPath := by rw [em_append]; rfl
    rw [hp]
    have hms : (callX ms).maps.map (chainF []) = ms := chain_map ms
    rw [hms]
    have := items_plain_all (d := d) (f := 0) (p := sPath) (ms := ms) (op := [sC] ++ [(callX ms).called]) x.items ⟨s.flows ++ x.flows.map (flowF sPath ms), s.n, s.e⟩ [] hx he (by show s.n + _ ≤ 400; omega)
    rw [show itemsF d 2 sPath ms ([sC] ++ [(callX ms).called]) x.items ⟨s.flows ++ x.flows.map (flowF sPath ms), s.n, s.e⟩ = itemsG (oneG d (itemsF d (0 + 1)) sPath ms ([sC] ++ [(callX ms).called])) x.items ⟨s.flows ++ x.flows.map (flowF sPath ms), s.n, s.e⟩ [] from rfl, this]
    simp only [List.nil_append]
    rw [show (⟨#[]⟩ : ByteArray) ++ (callX ms).id = sCall from em_append _]
    rfl
  have hsub : ∀ s : MkS, s.e = 0 → s.n ≤ 240 → 0 ≤ s.n → oneG d (itemsF d 2) ⟨#[]⟩ [] [sC] s (gsubF m) = some (gsubF m, ⟨s.flows, s.n + m.items.length, 0⟩) := by
    intro s he hs hs0
    unfold oneG
    rw [if_neg (show (gsubF m).kind ≠ 8 by show (7 : Int) ≠ 8; decide)]
    have := items_plain_all (d := d) (f := 0) (p := ⟨#[]⟩) (ms := []) (op := [sC]) m.items s [] hm he (by omega)
    rw [show itemsF d 2 ⟨#[]⟩ [] [sC] (gsubF m).items s = itemsG (oneG d (itemsF d (0 + 1)) ⟨#[]⟩ [] [sC]) m.items s [] from rfl, this]
    simp only [List.nil_append]
    rw [moved_ids hm]
    unfold itemF gsubF
    simp only [em_append, seq_map]
    rfl
  have hn0 : (0 : Int) + c0.items.length ≤ 108 := by omega
  have hall := items_plain (d := d) (f := 1) (p := ⟨#[]⟩) (ms := []) (op := [sC]) c0.items [callX ms, gsubF m] ⟨c0.flows ++ m.flows, 0, 0⟩ [] hc rfl (by show (0 : Int) + _ ≤ 400; omega)
  refine ⟨0 + c0.items.length + 1 + x.items.length + 1 + m.items.length, by omega, ?_⟩
  rw [← hd]
  rw [show itemsF d 3 ⟨#[]⟩ [] [sC] (c0.items ++ [callX ms, gsubF m]) ⟨c0.flows ++ m.flows, 0, 0⟩ = itemsG (oneG d (itemsF d (1 + 1)) ⟨#[]⟩ [] [sC]) (c0.items ++ [callX ms, gsubF m]) ⟨c0.flows ++ m.flows, 0, 0⟩ [] from rfl, hall]
  simp only [List.nil_append]
  rw [moved_ids hc]
  have hs1 : stepS ⟨c0.flows ++ m.flows, 0 + (c0.items.length : Int), 0⟩ = ⟨c0.flows ++ m.flows, 0 + (c0.items.length : Int) + 1, 0⟩ := step_ok (by show (0 : Int) + _ + 1 ≤ 400; omega)
  rw [itemsG_go (by rw [hs1]), hs1, hcall _ rfl (by show (0 : Int) + _ + 1 ≤ 110; omega) (by show (0 : Int) ≤ 0 + _ + 1; omega)]
  simp only
  have hs2 : stepS ⟨c0.flows ++ m.flows ++ x.flows.map (flowF sPath ms), 0 + (c0.items.length : Int) + 1 + x.items.length, 0⟩ = ⟨c0.flows ++ m.flows ++ x.flows.map (flowF sPath ms), 0 + (c0.items.length : Int) + 1 + x.items.length + 1, 0⟩ := step_ok (by show (0 : Int) + _ + 1 + _ + 1 ≤ 400; omega)
  rw [itemsG_go (by rw [hs2]), hs2, hsub _ rfl (by show (0 : Int) + _ + 1 + _ + 1 ≤ 240; omega) (by show (0 : Int) ≤ 0 + _ + 1 + _ + 1; omega)]
  simp only
  rw [itemsG_nil]
  simp
theorem nest_cycle (c0 x : ChorD) (parts : List PartD) (ms : List MapD) (m : MkD) (sq : List SeqD) (hc : ∀ y ∈ c0.items, PlainI y) (hn : c0.items.length ≤ 108) :
    ∃ n : Int, n ≤ 400 ∧ itemsF (nestX c0 x parts ms m sq) 3 ⟨#[]⟩ [] [sD] (c0.items ++ [callX ms, gsubF m]) ⟨c0.flows ++ m.flows, 0, 0⟩ = some ([], ⟨c0.flows ++ m.flows, n, 10⟩) := by
  obtain ⟨d, hd⟩ : ∃ d, d = nestX c0 x parts ms m sq := ⟨_, rfl⟩
  have hcall : ∀ s : MkS, s.e = 0 → oneG d (itemsF d 2) ⟨#[]⟩ [] [sD] s (callX ms) = some (callE ⟨#[]⟩ (callX ms), ⟨s.flows, s.n, 10⟩) := by
    intro s he
    unfold oneG
    rw [if_pos (show (callX ms).kind = 8 from rfl)]
    unfold callG
    have hf : findFrom (fun c : ChorD => eqS c.id (callX ms).called) d.chors 0 = 1 := by rw [hd]; exact nest_find c0 x parts ms m sq
    have hop : ([sD].any (eqS · (callX ms).called)) = true := by show (eqS sD sD || false) = true; rw [eqS_refl]; rfl
    rw [hf, if_neg (by decide), if_pos hop]
    unfold wrongS wrongF
    rw [if_pos he]
  have hall := items_plain (d := d) (f := 1) (p := ⟨#[]⟩) (ms := []) (op := [sD]) c0.items [callX ms, gsubF m] ⟨c0.flows ++ m.flows, 0, 0⟩ [] hc rfl (by show (0 : Int) + _ ≤ 400; omega)
  refine ⟨0 + c0.items.length + 1 + 1, by omega, ?_⟩
  rw [← hd]
  rw [show itemsF d 3 ⟨#[]⟩ [] [sD] (c0.items ++ [callX ms, gsubF m]) ⟨c0.flows ++ m.flows, 0, 0⟩ = itemsG (oneG d (itemsF d (1 + 1)) ⟨#[]⟩ [] [sD]) (c0.items ++ [callX ms, gsubF m]) ⟨c0.flows ++ m.flows, 0, 0⟩ [] from rfl, hall]
  simp only [List.nil_append]
  have hs1 : stepS ⟨c0.flows ++ m.flows, 0 + (c0.items.length : Int), 0⟩ = ⟨c0.flows ++ m.flows, 0 + (c0.items.length : Int) + 1, 0⟩ := step_ok (by show (0 : Int) + _ + 1 ≤ 400; omega)
  rw [itemsG_go (by rw [hs1]), hs1, hcall _ rfl]
  simp only
  have hs2 : stepS ⟨c0.flows ++ m.flows, 0 + (c0.items.length : Int) + 1, 10⟩ = ⟨c0.flows ++ m.flows, 0 + (c0.items.length : Int) + 1 + 1, 10⟩ := step_ok (by show (0 : Int) + _ + 1 + 1 ≤ 400; omega)
  rw [itemsG_stop (by rw [hs2]; show (10 : Int) ≠ 0; decide), hs2]
theorem nest_plain (d : DocD) (id : ByteArray) (x : ChorD) (hx : ∀ y ∈ x.items, PlainI y) (hn : x.items.length ≤ 108) :
    itemsF d 3 ⟨#[]⟩ [] [id] x.items ⟨x.flows, 0, 0⟩ = some (x.items, ⟨x.flows, 0 + (x.items.length : Int), 0⟩) := by
  have := items_plain_all (d := d) (f := 1) (p := ⟨#[]⟩) (ms := []) (op := [id]) x.items ⟨x.flows, 0, 0⟩ [] hx rfl (by show (0 : Int) + _ ≤ 400; omega)
  rw [show itemsF d 3 ⟨#[]⟩ [] [id] x.items ⟨x.flows, 0, 0⟩ = itemsG (oneG d (itemsF d (1 + 1)) ⟨#[]⟩ [] [id]) x.items ⟨x.flows, 0, 0⟩ [] from rfl, this]
  simp only [List.nil_append]
  rw [moved_ids hx]
end Go.Proofs.Yteoioboiniealaa
