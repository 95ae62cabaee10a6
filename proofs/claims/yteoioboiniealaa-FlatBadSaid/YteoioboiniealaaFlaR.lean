/- Plain law of FlatBad: which changes of a generated choreography come to no graph. -/
import Derived.Test.YteoioboiniealaaFlaQ
namespace Go.Proofs.Yteoioboiniealaa
open Go.RowKit

def bytesNo : ByteArray := ⟨#[110, 111]⟩
def bytesZz : ByteArray := ⟨#[122, 122]⟩
def bytesZf : ByteArray := ⟨#[122, 102]⟩
theorem taskE_bad {r : Bool × NodeD × FS} (h : r.2.2.e = 6 ∨ r.1 = false ∧ (r.2.1.src < 0 ∨ r.2.1.dst < 0 ∨ r.2.1.src = r.2.1.dst)) : (taskE r).2.e = 6 := by
  rcases h with h | h
  · exact taskE_e h
  · unfold taskE
    rw [if_pos h]
    rfl
section
variable {ps : List ByteArray} {fl : List FlowD}
theorem one_s (rec : List ItemD → List SeqD → FS → Option ((Int × Int) × FS)) (within : Bool) {i : ItemD} (h7 : i.kind ≠ 7) (hf : i.flows.length ≤ 3) : OneS (fitemG rec ps fl within) i := fun s => by
  obtain ⟨r, s', h1, h2⟩ := one_any ps fl rec within i h7 s
  exact ⟨r, s', h1, h2.e, Nat.le_of_eq h2.nodes, h2.edges, by have := h2.msgs; omega⟩
theorem one_bad {rec : List ItemD → List SeqD → FS → Option ((Int × Int) × FS)} {within : Bool} {i : ItemD} (h3 : i.kind = 3) (hb : ∀ s, (taskF ps fl i s).2.e = 6) : ∀ s r s', fitemG rec ps fl within s i = some (r, s') → s'.e = 6 := by
  intro s r s' h
  unfold fitemG at h
  rw [if_pos h3] at h
  injection h with h
  injection h with _ h
  rw [← h]
  exact hb s
theorem task_none {i : ItemD} (h : i.flows = []) (s : FS) : (taskF ps fl i s).2.e = 6 := by
  unfold taskF
  rw [h]
  exact taskE_bad (.inr ⟨rfl, .inl (by show (-1 : Int) < 0; decide)⟩)
theorem task_lost {i : ItemD} {a : ByteArray} (h : i.flows = [a]) (hn : ∀ f ∈ fl, f.id ≠ a) (s : FS) : (taskF ps fl i s).2.e = 6 := by
  unfold taskF
  rw [h]
  have hf : findFrom (fun x : FlowD => eqS x.id a) fl 0 = -1 := find_none 0 (fun x hx => by
    rcases hh : eqS x.id a with _ | _
    · rfl
    · exact absurd ((eqS_iffF _ _).1 hh) (hn x hx))
  unfold taskG
  rw [hf, if_pos (.inl (by decide))]
  exact taskE_e rfl
theorem task_three {i : ItemD} {a : ByteArray} (h : i.flows = [a, a, a]) (s : FS) : (taskF ps fl i s).2.e = 6 := by
  unfold taskF
  rw [h]
  refine taskE_e (taskG_true ps fl _ _ _ _ ?_)
  unfold taskG
  split
  · rfl
  · split
    · rfl
    · rw [if_neg (by decide)]
      unfold taskG
      split
      · rfl
      · split
        · rfl
        · rw [if_pos (by decide)]
          unfold taskG
          rw [if_pos (.inr (by decide))]
theorem task_noparts {i : ItemD} {a : ByteArray} {l : List ByteArray} (h : i.flows = a :: l) (hl : l.length ≤ 1) (s : FS) : (taskF [] fl i s).2.e = 6 := by
  unfold taskF
  rw [h]
  have hp : ∀ x, placeF [] x = -1 := fun x => rfl
  unfold taskG
  split
  · exact taskE_e rfl
  · split
    · exact taskE_e rfl
    · rename_i y _
      rw [if_neg (by decide), hp, hp]
      cases l with
      | nil =>
        unfold taskG
        exact taskE_bad (.inr ⟨rfl, .inl (by show (-1 : Int) < 0; decide)⟩)
      | cons b l =>
        have : l = [] := by cases l with
      | nil => rfl
      | cons c l => simp at hl
        subst this
        unfold taskG
        split
        · exact taskE_e rfl
        · split
          · exact taskE_e rfl
          · rw [if_pos (by decide)]
            unfold taskG
            exact taskE_bad (.inr ⟨rfl, .inl (by show (-1 : Int) < 0; decide)⟩)
theorem task_self {i : ItemD} {f : FlowD} (h : i.flows = [f.id]) (hs : f.src = f.dst) (s : FS) : (taskF ps (f :: fl) i s).2.e = 6 := by
  unfold taskF
  rw [h]
  have hf : findFrom (fun x : FlowD => eqS x.id f.id) (f :: fl) 0 = 0 := by
    unfold findFrom
    rw [if_pos ((eqS_iffF _ _).2 rfl)]
    rfl
  unfold taskG
  rw [hf, if_neg (by decide)]
  simp only [Int.toNat_zero, List.getElem?_cons_zero]
  rw [if_neg (by decide)]
  unfold taskG
  exact taskE_bad (.inr ⟨rfl, .inr (.inr (by show placeF ps f.src = placeF ps f.dst; rw [hs]))⟩)
/-- A task whose flows are there, between two. -/
theorem task_fine {i : ItemD} {a : ByteArray} {l : List ByteArray} (h : i.flows = a :: l) (hl : l.length ≤ 1) (hx : ∀ id ∈ i.flows, ∃ f ∈ fl, f.id = id) (hf : ∀ f ∈ fl, 0 ≤ placeF ps f.src ∧ 0 ≤ placeF ps f.dst ∧ placeF ps f.src ≠ placeF ps f.dst) (s : FS) : (taskF ps fl i s).2.e = s.e := by
  have hfound : ∀ id ∈ i.flows, 0 ≤ findFrom (fun x : FlowD => eqS x.id id) fl 0 := fun id hid => by
    obtain ⟨f, hf, he⟩ := hx id hid
    have := find_ge (p := fun x : FlowD => eqS x.id id) 0 ⟨f, hf, (eqS_iffF _ _).2 he⟩
    simpa using this
  rw [h] at hfound
  unfold taskF
  rw [h]
  have h1 := hfound a (List.mem_cons_self ..)
  obtain ⟨y, hy, hy1, _⟩ := find_some h1
  obtain ⟨p1, p2, p3⟩ := hf y hy
  unfold taskG
  rw [if_neg (by omega), hy1]
  dsimp only
  rw [if_neg (by decide)]
  cases l with
  | nil =>
    unfold taskG taskE
    rw [if_neg (by intro hh; rcases hh.2 with hh | hh | hh <;> dsimp only at hh <;> omega)]
    exact msg_e _ _
  | cons b l =>
    have : l = [] := by cases l with
      | nil => rfl
      | cons c l => simp at hl
    subst this
    have h2 := hfound b (by simp)
    obtain ⟨z, hz, hz1, _⟩ := find_some h2
    unfold taskG
    rw [if_neg (by omega), hz1]
    dsimp only
    rw [if_pos rfl]
    unfold taskG taskE
    rw [if_neg (by intro hh; rcases hh.2 with hh | hh | hh <;> dsimp only at hh <;> omega)]
    show (msgF _ _).2.e = _
    rw [msg_e, msg_e]
theorem one_fine {rec : List ItemD → List SeqD → FS → Option ((Int × Int) × FS)} {within : Bool} {i : ItemD} (h7 : i.kind ≠ 7) (h : i.kind = 3 → ∀ s, (taskF ps fl i s).2.e = s.e) : ∀ s r s', fitemG rec ps fl within s i = some (r, s') → s'.e = s.e := by
  intro s r s' hh
  unfold fitemG at hh
  by_cases h3 : i.kind = 3
  · rw [if_pos h3] at hh
    injection hh with hh
    injection hh with _ hh
    rw [← hh]
    exact h h3 s
  · rw [if_neg h3, if_neg h7] at hh
    split at hh
    · injection hh with hh
      injection hh with _ hh
      rw [← hh]
      rfl
    · injection hh with hh
      injection hh with _ hh
      rw [← hh]
      rfl
end
/-- Made with a bad item. -/
theorem graph_bad {c : ChorD} (hI : ∀ i ∈ c.items, i.kind ≠ 7 ∧ i.flows.length ≤ 3) (hl : c.items.length ≤ 1000) (hq : c.seqs.length ≤ 1000) (hb : ∃ i ∈ c.items, i.kind = 3 ∧ ∀ s, (taskF (c.parts.map (·.id)) c.flows i s).2.e = 6) :
    ∃ s, graphF 2 c = some s ∧ s.e = 6 ∧ SmallF s := by
  have hO : ∀ i ∈ c.items, OneS (fitemG (flevF (c.parts.map (·.id)) c.flows 1 true) (c.parts.map (·.id)) c.flows false) i := fun i hi => one_s _ _ (hI i hi).1 (hI i hi).2
  obtain ⟨ats, out, s1, h1, h2, h3⟩ := graph_some hO hl hq
  obtain ⟨i, hi, hk, hbi⟩ := hb
  exact ⟨_, h2, (flev2_kept _ _ _ _).1 (flev1_bad c.items hO ⟨i, hi, one_bad hk hbi⟩ _ _ _ _ _ _ h1), h3⟩
def withFlows (x : ItemD) (fl : List ByteArray) : ItemD := ⟨x.kind, x.id, x.first, x.parts, fl, x.loop, x.called, x.maps, x.items, x.seqs⟩
section
variable {c : ChorD} (h : FlatB c)
include h
theorem flatB_items : ∀ i ∈ c.items, i.kind ≠ 7 ∧ i.flows.length ≤ 3 := fun i hi => by
  have := h.items i hi
  exact ⟨by have := this.kind; omega, by have := this.flows; omega⟩
/-- A task's flows are others: it is bad. -/
theorem flat_item {j : Nat} (hj : j < c.items.length) (h3 : c.items[j].kind = 3) (fl : List ByteArray) (hfl : fl.length ≤ 3) (ff : List FlowD) (hb : ∀ s, (taskF (c.parts.map (·.id)) ff (withFlows c.items[j] fl) s).2.e = 6) :
    ∃ s, graphF 2 ⟨c.id, c.parts, ff, c.items.set j (withFlows c.items[j] fl), c.seqs⟩ = some s ∧ s.e = 6 ∧ SmallF s := by
  refine graph_bad (fun i hi => ?_) (by have := h.nI; simp; omega) (by have := h.nS; show c.seqs.length ≤ _; omega) ⟨withFlows c.items[j] fl, List.mem_set hj _, h3, hb⟩
  have hi' : i ∈ c.items.set j (withFlows c.items[j] fl) := hi
  rcases List.mem_or_eq_of_mem_set hi' with hi' | rfl
  · exact flatB_items h i hi'
  · exact ⟨by show c.items[j].kind ≠ 7; omega, hfl⟩
theorem flat0 {j : Nat} (hj : j < c.items.length) (h3 : c.items[j].kind = 3) : ∃ s, graphF 2 ⟨c.id, c.parts, c.flows, c.items.set j (withFlows c.items[j] []), c.seqs⟩ = some s ∧ s.e = 6 ∧ SmallF s :=
  flat_item h hj h3 [] (by decide) c.flows (task_none rfl)
theorem flat1 {j : Nat} (hj : j < c.items.length) (h3 : c.items[j].kind = 3) : ∃ s, graphF 2 ⟨c.id, c.parts, c.flows, c.items.set j (withFlows c.items[j] [bytesNo]), c.seqs⟩ = some s ∧ s.e = 6 ∧ SmallF s :=
  flat_item h hj h3 [bytesNo] (by decide) c.flows (task_lost rfl (fun f hf e => by have := h.flowIds f hf; rw [e] at this; exact absurd this (by decide)))
theorem flat2 {j : Nat} (hj : j < c.items.length) (h3 : c.items[j].kind = 3) (a : ByteArray) : ∃ s, graphF 2 ⟨c.id, c.parts, c.flows, c.items.set j (withFlows c.items[j] [a, a, a]), c.seqs⟩ = some s ∧ s.e = 6 ∧ SmallF s :=
  flat_item h hj h3 [a, a, a] (by simp) c.flows (task_three rfl)
theorem flat3 {j : Nat} (hj : j < c.items.length) (h3 : c.items[j].kind = 3) : ∃ s, graphF 2 ⟨c.id, [], c.flows, c.items, c.seqs⟩ = some s ∧ s.e = 6 ∧ SmallF s := by
  obtain ⟨⟨a, l, ha, hl⟩, _⟩ := h.tasks _ (List.getElem_mem hj) h3
  exact graph_bad (c := ⟨c.id, [], c.flows, c.items, c.seqs⟩) (fun i hi => flatB_items h i hi) (by have := h.nI; show c.items.length ≤ _; omega) (by have := h.nS; show c.seqs.length ≤ _; omega) ⟨_, List.getElem_mem hj, h3, task_noparts ha hl⟩
theorem flat6 {j : Nat} (hj : j < c.items.length) (h3 : c.items[j].kind = 3) (a m : ByteArray) : ∃ s, graphF 2 ⟨c.id, c.parts, ⟨bytesZf, a, a, m⟩ :: c.flows, c.items.set j (withFlows c.items[j] [bytesZf]), c.seqs⟩ = some s ∧ s.e = 6 ∧ SmallF s :=
  flat_item h hj h3 [bytesZf] (by simp) _ (task_self (f := ⟨bytesZf, a, a, m⟩) rfl rfl)
theorem flat4 {q : SeqD} (hq : q ∈ c.seqs.set 0 q) (hs : q.src = bytesNo) : ∃ s, graphF 2 ⟨c.id, c.parts, c.flows, c.items, c.seqs.set 0 q⟩ = some s ∧ s.e = 6 ∧ SmallF s := by
  have hO : ∀ i ∈ c.items, OneS (fitemG (flevF (c.parts.map (·.id)) c.flows 1 true) (c.parts.map (·.id)) c.flows false) i := fun i hi => one_s _ _ (flatB_items h i hi).1 (flatB_items h i hi).2
  obtain ⟨ats, out, s1, h1, h2, h3⟩ := graph_some (c := ⟨c.id, c.parts, c.flows, c.items, c.seqs.set 0 q⟩) hO (by have := h.nI; show c.items.length ≤ _; omega) (by have := h.nS; simp; omega)
  refine ⟨_, h2, flev2_bad _ _ _ _ ⟨q, hq, fun s => ?_⟩, h3⟩
  have hf : findFrom (fun x : ItemD => eqS x.id q.src) c.items 0 = -1 := find_none 0 (fun x hx => by
    rcases hh : eqS x.id q.src with _ | _
    · rfl
    · have h5 := h.ids x hx
      rw [(eqS_iffF _ _).1 hh, hs] at h5
      exact absurd h5 (by decide))
  unfold fedge
  show (if findFrom (fun x : ItemD => eqS x.id q.src) c.items 0 < 0 ∨ _ then noneF s else _).e = 6
  rw [if_pos (.inl (by rw [hf]; decide))]
  rfl
def subZz : ItemD := ⟨7, bytesZz, ⟨#[]⟩, [], [], false, ⟨#[]⟩, [], [], []⟩
omit h in
theorem find_last {l : List ItemD} {y : ItemD} {id : ByteArray} (hy : y.id = id) : ∀ (k : Nat), (∀ x ∈ l, x.id ≠ id) → findFrom (fun x : ItemD => eqS x.id id) (l ++ [y]) k = ((k + l.length : Nat) : Int) := by
  induction l with
  | nil =>
    intro k _
    show (if eqS y.id id = true then (k : Int) else _) = _
    rw [if_pos ((eqS_iffF _ _).2 hy)]
    rfl
  | cons x l ih =>
    intro k hn
    rw [List.cons_append]
    unfold findFrom
    rw [if_neg (fun hh => hn x (List.mem_cons_self ..) ((eqS_iffF _ _).1 hh)), ih (k + 1) (fun x hx => hn x (List.mem_cons_of_mem _ hx))]
    rw [List.length_cons]
    congr 1
    omega
omit h in
theorem one_sub (ps : List ByteArray) (fl : List FlowD) (within : Bool) (s : FS) : fitemG (flevF ps fl 1 true) ps fl within s subZz = some ((-1, -1), s) := rfl
theorem flat5 (x : ByteArray) : ∃ s, graphF 2 ⟨c.id, c.parts, c.flows, c.items ++ [subZz], c.seqs ++ [⟨⟨#[]⟩, bytesZz, x⟩]⟩ = some s ∧ s.e = 6 ∧ SmallF s := by
  have hO : ∀ i ∈ c.items ++ [subZz], OneS (fitemG (flevF (c.parts.map (·.id)) c.flows 1 true) (c.parts.map (·.id)) c.flows false) i := fun i hi => by
    rcases List.mem_append.1 hi with hi | hi
    · exact one_s _ _ (flatB_items h i hi).1 (flatB_items h i hi).2
    · rw [List.mem_singleton.1 hi]
      exact fun s => ⟨_, _, one_sub _ _ _ s, fun h => h, Nat.le_succ _, rfl, by omega⟩
  obtain ⟨ats, out, s1, h1, h2, h3⟩ := graph_some (c := ⟨c.id, c.parts, c.flows, c.items ++ [subZz], c.seqs ++ [⟨⟨#[]⟩, bytesZz, x⟩]⟩) hO (by have := h.nI; simp; omega) (by have := h.nS; simp; omega)
  refine ⟨_, h2, flev2_bad _ _ _ _ ⟨⟨⟨#[]⟩, bytesZz, x⟩, List.mem_append_right _ (by simp), fun s => ?_⟩, h3⟩
  have hf : findFrom (fun y : ItemD => eqS y.id bytesZz) (c.items ++ [subZz]) 0 = ((0 + c.items.length : Nat) : Int)   := find_last (l := c.items) (y := subZz) rfl 0 (fun y hy e => by have h5 := h.ids y hy; rw [e] at h5; exact absurd h5 (by decide))
  rw [Nat.zero_add] at hf
  obtain ⟨rs, e1, e2, e3⟩ := flev1_ats (Q := fun i r => i = subZz → r = (-1, -1)) (c.items ++ [subZz]) (fun i _ s r s' hh hi => by
    subst hi
    rw [one_sub] at hh
    injection hh with hh
    injection hh with hh _
    exact hh.symm) _ _ _ _ _ _ h1
  rw [List.nil_append] at e1
  have hlen : rs.length = c.items.length + 1 := by rw [e2]; simp
  have hr := e3 c.items.length (by simp) (by omega) (by simp)
  have hg : ats.getD c.items.length (0, 0) = (-1, -1) := by
    rw [e1, List.getD_eq_getElem?_getD, List.getElem?_eq_getElem (by omega), Option.getD_some]
    exact hr
  unfold fedge
  show (if findFrom (fun y : ItemD => eqS y.id bytesZz) (c.items ++ [subZz]) 0 < 0 ∨ findFrom (fun y : ItemD => eqS y.id x) (c.items ++ [subZz]) 0 < 0 ∨ (ats.getD (findFrom (fun y : ItemD => eqS y.id bytesZz) (c.items ++ [subZz]) 0).toNat (0, 0)).2 < 0 ∨ _ then noneF s else _).e = 6
  rw [if_pos (.inr (.inr (.inl (by rw [hf, Int.toNat_natCast, hg]; decide))))]
  rfl
theorem flat7 : ∃ s, graphF 2 c = some s ∧ s.e = 0 ∧ SmallF s := by
  have hO : ∀ i ∈ c.items, OneS (fitemG (flevF (c.parts.map (·.id)) c.flows 1 true) (c.parts.map (·.id)) c.flows false) i := fun i hi => one_s _ _ (flatB_items h i hi).1 (flatB_items h i hi).2
  obtain ⟨ats, out, s1, h1, h2, h3⟩ := graph_some hO (by have := h.nI; omega) (by have := h.nS; omega)
  refine ⟨_, h2, ?_, h3⟩
  have hgood := flev1_good c.items (fun i hi => one_fine (flatB_items h i hi).1 (fun hk s => by
    obtain ⟨⟨a, l, ha, hl⟩, hx⟩ := h.tasks i hi hk
    exact task_fine ha hl hx h.flows s)) _ _ _ _ _ _ h1
  obtain ⟨rs, e1, e2, e3⟩ := flev1_ats (Q := fun i r => 0 ≤ r.1 ∧ 0 ≤ r.2) c.items (fun i hi s r s' hh => by
    obtain ⟨r', s2, hh2, hR⟩ := one_any (c.parts.map (·.id)) c.flows (flevF (c.parts.map (·.id)) c.flows 1 true) false i (flatB_items h i hi).1 s
    rw [hh] at hh2
    injection hh2 with hh2
    injection hh2 with hh2 _
    rw [hh2, hR.in_, hR.out]
    omega) _ _ _ _ _ _ h1
  rw [List.nil_append] at e1
  rw [flev2_good _ _ _ _ (fun q hq s => ?_), hgood]
  obtain ⟨⟨x, hx, ex⟩, ⟨y, hy, ey⟩⟩ := h.seqs q hq
  have ha := find_ge (p := fun x : ItemD => eqS x.id q.src) 0 ⟨x, hx, (eqS_iffF _ _).2 ex⟩
  have hb := find_ge (p := fun x : ItemD => eqS x.id q.dst) 0 ⟨y, hy, (eqS_iffF _ _).2 ey⟩
  obtain ⟨i, hi, hie⟩ := findFrom_inF (fun x : ItemD => eqS x.id q.src) c.items 0 (by omega)
  obtain ⟨j, hj, hje⟩ := findFrom_inF (fun x : ItemD => eqS x.id q.dst) c.items 0 (by omega)
  rw [Nat.zero_add] at hie hje
  have g1 := e3 i hi (by omega)
  have g2 := e3 j hj (by omega)
  have k1 : ats.getD (findFrom (fun x : ItemD => eqS x.id q.src) c.items 0).toNat (0, 0) = rs[i]'(by omega) := by
    rw [hie, Int.toNat_natCast, e1, List.getD_eq_getElem?_getD, List.getElem?_eq_getElem (by omega), Option.getD_some]
  have k2 : ats.getD (findFrom (fun x : ItemD => eqS x.id q.dst) c.items 0).toNat (0, 0) = rs[j]'(by omega) := by
    rw [hje, Int.toNat_natCast, e1, List.getD_eq_getElem?_getD, List.getElem?_eq_getElem (by omega), Option.getD_some]
  unfold fedge
  rw [k1, k2, if_neg (by omega)]
end
end Go.Proofs.Yteoioboiniealaa
