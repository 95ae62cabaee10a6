/- What generated choreographies are for flat: whose graph is made; which changes make it fail. -/
import Derived.Test.YteoioboiniealaaFlaP
import Derived.Test.YteoioboiniealaaGenP
import Derived.Test.YteoioboiniealaaGenM
namespace Go.Proofs.Yteoioboiniealaa
open Go.RowKit

theorem eqS_iffF (a b : ByteArray) : eqS a b = true ↔ a = b := by
  unfold eqS
  rw [beq_iff_eq]
  constructor
  · intro h
    have h1 : a.data.toList = b.data.toList := by rw [Lib.toList_data, Lib.toList_data] at h; exact h
    have h2 : a.data = b.data := Array.toList_inj.1 h1
    obtain ⟨x⟩ := a
    obtain ⟨y⟩ := b
    simp only at h2
    rw [h2]
  · intro h; rw [h]
theorem find_ge {α : Type} {p : α → Bool} : ∀ {l : List α} (k : Nat), (∃ x ∈ l, p x = true) → (k : Int) ≤ findFrom p l k
  | [], _, h => by obtain ⟨x, hx, _⟩ := h; cases hx
  | y :: l, k, h => by
    unfold findFrom
    by_cases hy : p y = true
    · rw [if_pos hy]; omega
    · rw [if_neg hy]
      obtain ⟨x, hx, hp⟩ := h
      rcases List.mem_cons.1 hx with rfl | hx
      · exact absurd hp hy
      · have := find_ge (k + 1) ⟨x, hx, hp⟩
        omega
theorem find_none {α : Type} {p : α → Bool} : ∀ {l : List α} (k : Nat), (∀ x ∈ l, p x = false) → findFrom p l k = -1
  | [], _, _ => rfl
  | y :: l, k, h => by
    unfold findFrom
    rw [if_neg (by rw [h y (List.mem_cons_self ..)]; simp)]
    exact find_none (k + 1) (fun x hx => h x (List.mem_cons_of_mem _ hx))
theorem find_get {α : Type} {p : α → Bool} : ∀ {l : List α} {k i : Nat}, findFrom p l k = ((k + i : Nat) : Int) → ∃ h : i < l.length, p l[i] = true
  | [], k, i, h => by unfold findFrom at h; omega
  | y :: l, k, i, h => by
    unfold findFrom at h
    by_cases hy : p y = true
    · rw [if_pos hy] at h
      have : i = 0 := by omega
      subst this
      exact ⟨by simp, hy⟩
    · rw [if_neg hy] at h
      cases i with
      | zero =>
        exfalso
        rcases Int.lt_or_le (findFrom p l (k + 1)) 0 with h1 | h1
        · omega
        · obtain ⟨j, _, hj⟩ := findFrom_inF p l (k + 1) (by omega)
          omega
      | succ i =>
        obtain ⟨h1, h2⟩ := find_get (l := l) (k := k + 1) (i := i) (by rw [h]; congr 1; omega)
        exact ⟨by simp; omega, h2⟩
/-- What is found has the property. -/
theorem find_some {α : Type} {p : α → Bool} {l : List α} (h : 0 ≤ findFrom p l 0) : ∃ x ∈ l, l[(findFrom p l 0).toNat]? = some x ∧ p x = true := by
  obtain ⟨i, hi, he⟩ := findFrom_inF p l 0 (by omega)
  obtain ⟨h1, h2⟩ := find_get he
  rw [Nat.zero_add] at he
  exact ⟨l[i], List.getElem_mem hi, by rw [he, Int.toNat_natCast, List.getElem?_eq_getElem hi], h2⟩
theorem place_ge {l : List ByteArray} {x : ByteArray} (h : x ∈ l) : 0 ≤ placeF l x := by
  have := find_ge (p := (eqS · x)) 0 ⟨x, h, (eqS_iffF x x).2 rfl⟩
  unfold placeF
  omega
theorem place_inj {l : List ByteArray} {x y : ByteArray} (hx : x ∈ l) (h : placeF l x = placeF l y) : x = y := by
  have h0 := place_ge hx
  obtain ⟨i, hi, he⟩ := findFrom_inF (eqS · x) l 0 (by unfold placeF at h0; omega)
  obtain ⟨h1, h2⟩ := find_get he
  have he' : findFrom (eqS · y) l 0 = ((0 + i : Nat) : Int) := by unfold placeF at h; rw [← h]; exact he
  obtain ⟨h3, h4⟩ := find_get he'
  rw [← (eqS_iffF _ _).1 h2, ← (eqS_iffF _ _).1 h4]

/-- What holds of makers, as flat wants it. -/
structure FlatM (m : MkD) : Prop where
  two : 2 ≤ m.parts.length
  flows : ∀ f ∈ m.flows, f.id.size = m.pre.size + 3 ∧ ∃ a b, a < m.parts.length ∧ b < m.parts.length ∧ a ≠ b ∧ f.src = gpart m a ∧ f.dst = gpart m b
  tasks : ∀ x ∈ m.items, x.kind = 3 → (∃ a l, x.flows = a :: l ∧ l.length ≤ 1) ∧ ∀ id ∈ x.flows, ∃ f ∈ m.flows, f.id = id
  ids : ∀ x ∈ m.items, x.id.size = m.pre.size + 3
  seqs : ∀ s ∈ m.seqs, HasI m s.src ∧ HasI m s.dst
theorem gname_len (m : MkD) (s : ByteArray) (hs : s.size = 1) : (gnameF m s).size = m.pre.size + 3 := by
  unfold gnameF idF
  rw [ByteArray.size_append, ByteArray.size_append, hs]
  rfl
theorem gA_lt {m : MkD} (h : 2 ≤ m.parts.length) (x : Nat) : gA m x < m.parts.length := Nat.mod_lt _ (by omega)
theorem gB_lt {m : MkD} (h : 2 ≤ m.parts.length) (x : Nat) : gB m x < m.parts.length := Nat.mod_lt _ (by omega)
theorem gA_ne_gB {m : MkD} (h : 2 ≤ m.parts.length) (x : Nat) : gA m x ≠ gB m x := by
  have h1 := gA_lt h x
  unfold gB
  have h2 : x / 16 % 16 % (m.parts.length - 1) < m.parts.length - 1 := Nat.mod_lt _ (by omega)
  obtain ⟨t, ht⟩ : ∃ t, t = x / 16 % 16 % (m.parts.length - 1) := ⟨_, rfl⟩
  obtain ⟨a, ha⟩ : ∃ a, a = gA m x := ⟨_, rfl⟩
  rw [← ht, ← ha]
  rw [← ht] at h2
  rw [← ha] at h1
  rcases Nat.lt_or_ge (a + 1 + t) m.parts.length with h3 | h3
  · rw [Nat.mod_eq_of_lt h3]; omega
  · rw [Nat.mod_eq_sub_mod h3, Nat.mod_eq_of_lt (by omega)]; omega
theorem HasI.push {m : MkD} {a : ByteArray} {x : ItemD} (h : HasI m a) : HasI (gitemF (gnamedF m) x) a := h.more (more_item m x)
theorem flat_push {m : MkD} (h : FlatM m) (k : Int) (hk : k ≠ 3) (s : ByteArray) (hs : s.size = 1) : FlatM (gitemF (gnamedF m) (gitem0 k (gnameF m s))) := by
  refine ⟨h.two, h.flows, fun x hx h3 => ?_, fun x hx => ?_, fun q hq => ?_⟩
  · have hx' : x ∈ m.items ++ [gitem0 k (gnameF m s)] := hx
    rcases List.mem_append.1 hx' with hx' | hx'
    · exact h.tasks x hx' h3
    · rw [List.mem_singleton.1 hx'] at h3; exact absurd h3 hk
  · have hx' : x ∈ m.items ++ [gitem0 k (gnameF m s)] := hx
    rcases List.mem_append.1 hx' with hx' | hx'
    · exact h.ids x hx'
    · rw [List.mem_singleton.1 hx']; exact gname_len m s hs
  · exact ⟨(h.seqs q hq).1.push, (h.seqs q hq).2.push⟩
theorem flat_seq {m : MkD} (h : FlatM m) {a b : ByteArray} (ha : HasI m a) (hb : HasI m b) : FlatM (gseqF m a b) := by
  refine ⟨h.two, h.flows, h.tasks, h.ids, fun q hq => ?_⟩
  have hq' : q ∈ m.seqs ++ [⟨gnameF m chS, a, b⟩] := hq
  rcases List.mem_append.1 hq' with hq' | hq'
  · exact ⟨(h.seqs q hq').1.more (more_seq _ _ _), (h.seqs q hq').2.more (more_seq _ _ _)⟩
  · rw [List.mem_singleton.1 hq']
    exact ⟨ha.more (more_seq _ _ _), hb.more (more_seq _ _ _)⟩
theorem flat_inv : GenInv FlatM where
  next m h := ⟨h.two, h.flows, h.tasks, h.ids, h.seqs⟩
  item m k hk h := flat_push h k (by omega) chG rfl
  seq m a b ha hb h := flat_seq h ha hb
  task m x h := by
    have hA := gA_lt h.two x
    have hB := gB_lt h.two x
    have hne := gA_ne_gB h.two x
    refine ⟨h.two, fun f hf => ?_, fun y hy h3 => ?_, fun y hy => ?_, fun q hq => ⟨(h.seqs q hq).1.more (more_task _ _), (h.seqs q hq).2.more (more_task _ _)⟩⟩
    · have hf' : f ∈ m.flows ++ gtaskL m x := hf
      rcases List.mem_append.1 hf' with hf' | hf'
      · exact h.flows f hf'
      · have h1 := gname_len (gnamedF m) chF rfl
        have h2 := gname_len (gnamedF (gnamedF m)) chF rfl
        unfold gtaskL at hf'
        cases hb : gback x <;> rw [hb] at hf' <;> simp at hf'
        · rw [hf']; exact ⟨h1, gA m x, gB m x, hA, hB, hne, rfl, rfl⟩
        · rcases hf' with hf' | hf' <;> rw [hf']
          · exact ⟨h1, gA m x, gB m x, hA, hB, hne, rfl, rfl⟩
          · exact ⟨h2, gB m x, gA m x, hB, hA, Ne.symm hne, rfl, rfl⟩
    · have hy' : y ∈ m.items ++ [gtaskI m x] := hy
      have hfl : (gtaskF m x).flows = m.flows ++ gtaskL m x := rfl
      rcases List.mem_append.1 hy' with hy' | hy'
      · obtain ⟨h1, h2⟩ := h.tasks y hy' h3
        refine ⟨h1, fun id hid => ?_⟩
        obtain ⟨f, hf, he⟩ := h2 id hid
        exact ⟨f, by rw [hfl]; exact List.mem_append_left _ hf, he⟩
      · rw [List.mem_singleton.1 hy']
        refine ⟨⟨_, _, rfl, by split <;> simp⟩, fun id hid => ?_⟩
        rw [hfl]
        unfold gtaskI at hid
        unfold gtaskL
        cases hb : gback x <;> rw [hb] at hid <;> simp at hid
        · exact ⟨_, List.mem_append_right _ (List.mem_cons_self ..), hid.symm⟩
        · rcases hid with hid | hid
          · exact ⟨_, List.mem_append_right _ (List.mem_cons_self ..), hid.symm⟩
          · exact ⟨⟨gnameF (gnamedF (gnamedF m)) chF, gpart m (gB m x), gpart m (gA m x), ⟨#[109, 100]⟩⟩, List.mem_append_right _ (by simp), hid.symm⟩
    · have hy' : y ∈ m.items ++ [gtaskI m x] := hy
      rcases List.mem_append.1 hy' with hy' | hy'
      · exact h.ids y hy'
      · rw [List.mem_singleton.1 hy']; exact gname_len m chT rfl
/-- There is a task. -/
def HasT (m : MkD) : Prop := ∃ x ∈ m.items, x.kind = 3
theorem HasT.more {m m' : MkD} (h : HasT m) (k : MoreI m m') : HasT m' := by
  obtain ⟨x, hx, h3⟩ := h
  obtain ⟨l, hl⟩ := k
  exact ⟨x, by rw [hl]; exact List.mem_append_left _ hx, h3⟩
theorem more_close (m : MkD) (a s t : ByteArray) (k x : Nat) : MoreI m (gcloseF m a s t k x) := by
  have m4 := ((more_item m (gitem0 (gkind k) (gnameF m chG))).trans (more_seq _ s (gnameF m chG))).trans (more_seq _ t (gnameF m chG))
  unfold gcloseF
  dsimp only
  split
  · exact m4.trans (more_seq _ _ _)
  · exact m4
theorem part_task : ∀ (d : Nat) (m : MkD) (src : ByteArray), HasT (gpartF d m src).2
  | 0, m, src => by
    rw [gpartF_leaf (.inl rfl)]
    exact ⟨gtaskI (gnextF m) (pickF m.p m.at_ / 8), by simp [gleafF, gseqF, gtaskF], rfl⟩
  | d + 1, m, src => by
    by_cases h1 : pickF m.p m.at_ % 8 < 3 ∨ 9 < m.items.length
    · rw [gpartF_leaf (.inr h1)]
      exact ⟨gtaskI (gnextF m) (pickF m.p m.at_ / 8), by simp [gleafF, gseqF, gtaskF], rfl⟩
    · by_cases h5 : pickF m.p m.at_ % 8 < 5
      · rw [gpartF_seq h1 h5]
        exact part_task d _ _
      · rw [gpartF_both h1 h5]
        exact (part_task d _ _).more (more_close _ _ _ _ _ _)
theorem flat_level {m : MkD} (h : FlatM m) (deep : Nat) : FlatM (glevelF m deep) ∧ HasT (glevelF m deep) := by
  have b := body_ok flat_inv (m := m) deep (flat_push h 1 (by decide) chB_ rfl)
  rw [glevel_eq]
  refine ⟨flat_seq (flat_push b.inv 2 (by decide) chE rfl) b.has.push (has_item _ _), ?_⟩
  exact ((part_task deep _ _).more (more_item _ _)).more (more_seq _ _ _)
theorem gpn_inj : ∀ a, a < 4 → ∀ b, b < 4 → gpn a = gpn b → a = b := by
  intro a ha b hb h
  have h1 : (gpn a).data = (gpn b).data := by rw [h]
  have h2 : (gpn a).data[1]? = (gpn b).data[1]? := by rw [h1]
  have h3 : some (UInt8.ofNat (97 + a)) = some (UInt8.ofNat (97 + b)) := h2
  injection h3 with h3
  have h4 : (UInt8.ofNat (97 + a)).toNat = (UInt8.ofNat (97 + b)).toNat := by rw [h3]
  rw [UInt8.toNat_ofNat', UInt8.toNat_ofNat'] at h4
  omega
/-- What a generated choreography is for flat. -/
structure FlatB (c : ChorD) : Prop where
  items : ∀ x ∈ c.items, PlainI x
  ids : ∀ x ∈ c.items, x.id.size = 3
  flowIds : ∀ f ∈ c.flows, f.id.size = 3
  flows : ∀ f ∈ c.flows, 0 ≤ placeF (c.parts.map (·.id)) f.src ∧ 0 ≤ placeF (c.parts.map (·.id)) f.dst ∧ placeF (c.parts.map (·.id)) f.src ≠ placeF (c.parts.map (·.id)) f.dst
  tasks : ∀ x ∈ c.items, x.kind = 3 → (∃ a l, x.flows = a :: l ∧ l.length ≤ 1) ∧ ∀ id ∈ x.flows, ∃ f ∈ c.flows, f.id = id
  seqs : ∀ q ∈ c.seqs, (∃ x ∈ c.items, x.id = q.src) ∧ ∃ x ∈ c.items, x.id = q.dst
  task : ∃ x ∈ c.items, x.kind = 3
  nP : 2 ≤ c.parts.length ∧ c.parts.length ≤ 4
  nF : c.flows.length ≤ 108
  nI : c.items.length ≤ 108
  nS : c.seqs.length ≤ 108 ∧ 1 ≤ c.seqs.length
theorem flat_chor (p : List Int) (hp : p.length ≤ maxLen) (nm : ByteArray) : FlatB (gchorF p nm ⟨#[]⟩) := by
  have hf := gchor_facts p hp nm ⟨#[]⟩ (by decide)
  obtain ⟨h2, h4, hF, hI, hS, hS1⟩ := hf
  have pc : PlainM (gmakeF p ⟨#[]⟩) := plain_chor p ⟨#[]⟩ (by decide)
  have hg := grow_level (gbeginF p (2 + pickF p 0 % 16 % 3) ⟨#[]⟩) 3
  have hparts : (gmakeF p ⟨#[]⟩).parts = (gbeginF p (2 + pickF p 0 % 16 % 3) ⟨#[]⟩).parts := hg.parts
  have hpre : (gmakeF p ⟨#[]⟩).pre = ⟨#[]⟩ := hg.pre
  have h0 : FlatM (gbeginF p (2 + pickF p 0 % 16 % 3) ⟨#[]⟩) := ⟨by simp [gbeginF], fun f hf => by simp [gbeginF] at hf, fun f hf => by simp [gbeginF] at hf, fun f hf => by simp [gbeginF] at hf, fun f hf => by simp [gbeginF] at hf⟩
  obtain ⟨hM, hT⟩ := flat_level h0 3
  have hM : FlatM (gmakeF p ⟨#[]⟩) := hM
  have hT : HasT (gmakeF p ⟨#[]⟩) := hT
  have hsz : (gmakeF p ⟨#[]⟩).pre.size + 3 = 3 := by rw [hpre]; rfl
  obtain ⟨n, hn⟩ : ∃ n, n = 2 + pickF p 0 % 16 % 3 := ⟨_, rfl⟩
  have hn4 : n ≤ 4 := by omega
  have hpl : (gmakeF p ⟨#[]⟩).parts = (List.range n).map (fun i => (⟨gpn i, ⟨#[]⟩⟩ : PartD)) := by
    rw [hparts, ← hn]
    show (List.range n).map (fun i => (⟨(⟨#[]⟩ : ByteArray) ++ gpn i, ⟨#[]⟩⟩ : PartD)) = _
    refine List.map_congr_left (fun i _ => ?_)
    rw [show (⟨#[]⟩ : ByteArray) ++ gpn i = gpn i by rw [← ByteArray.empty_append (b := gpn i)]; rfl]
  have hgp : ∀ a, a < (gmakeF p ⟨#[]⟩).parts.length → gpart (gmakeF p ⟨#[]⟩) a = gpn a ∧ a < 4 := by
    intro a ha
    unfold gpart
    rw [hpl] at ha ⊢
    rw [List.length_map, List.length_range] at ha
    rw [List.getD_eq_getElem?_getD, List.getElem?_map, List.getElem?_range ha]
    exact ⟨rfl, by omega⟩
  have hmem : ∀ a, a < (gmakeF p ⟨#[]⟩).parts.length → gpart (gmakeF p ⟨#[]⟩) a ∈ (gmakeF p ⟨#[]⟩).parts.map (·.id) := by
    intro a ha
    unfold gpart
    rw [List.getD_eq_getElem?_getD, List.getElem?_eq_getElem ha]
    exact List.mem_map.2 ⟨_, List.getElem_mem ha, rfl⟩
  refine ⟨pc.items, fun x hx => by rw [← hsz]; exact hM.ids x hx, fun f hf => by rw [← hsz]; exact (hM.flows f hf).1, fun f hf => ?_, hM.tasks, hM.seqs, hT, ⟨h2, h4⟩, hF, hI, hS, hS1⟩
  obtain ⟨_, a, b, ha, hb, hne, e1, e2⟩ := hM.flows f hf
  rw [e1, e2]
  refine ⟨place_ge (hmem a ha), place_ge (hmem b hb), fun h => hne ?_⟩
  have h5 := place_inj (hmem a ha) h
  rw [(hgp a ha).1, (hgp b hb).1] at h5
  exact gpn_inj a (hgp a ha).2 b (hgp b hb).2 h5
end Go.Proofs.Yteoioboiniealaa
