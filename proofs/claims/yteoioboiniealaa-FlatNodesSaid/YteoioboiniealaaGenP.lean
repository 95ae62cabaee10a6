/- Plain facts of what the generator makes: what holds of all makers on the way; items are plain ones, texts are short, there is one end. -/
import Derived.Test.YteoioboiniealaaGenH
namespace Go.Proofs.Yteoioboiniealaa
open Go.RowKit

/-- An item of a maker. -/
def HasI (m : MkD) (a : ByteArray) : Prop := ∃ x ∈ m.items, x.id = a
/-- What is kept by each step of a part. -/
structure GenInv (I : MkD → Prop) : Prop where
  next : ∀ m, I m → I (gnextF m)
  task : ∀ m x, I m → I (gtaskF m x)
  item : ∀ m k, k = 4 ∨ k = 5 → I m → I (gitemF (gnamedF m) (gitem0 k (gnameF m chG)))
  seq : ∀ m a b, HasI m a → HasI m b → I m → I (gseqF m a b)
/-- There are the items that were there. -/
def MoreI (m m' : MkD) : Prop := ∃ l, m'.items = m.items ++ l
theorem MoreI.refl (m : MkD) : MoreI m m := ⟨[], by simp⟩
theorem MoreI.trans {a b c : MkD} (h : MoreI a b) (k : MoreI b c) : MoreI a c := by
  obtain ⟨l, hl⟩ := h
  obtain ⟨r, hr⟩ := k
  exact ⟨l ++ r, by rw [hr, hl, List.append_assoc]⟩
theorem HasI.more {m m' : MkD} {a : ByteArray} (h : HasI m a) (k : MoreI m m') : HasI m' a := by
  obtain ⟨x, hx, hid⟩ := h
  obtain ⟨l, hl⟩ := k
  exact ⟨x, by rw [hl]; exact List.mem_append_left _ hx, hid⟩
theorem more_seq (m : MkD) (a b : ByteArray) : MoreI m (gseqF m a b) := ⟨[], by simp [gseqF]⟩
theorem more_item (m : MkD) (x : ItemD) : MoreI m (gitemF (gnamedF m) x) := ⟨[x], rfl⟩
theorem has_item (m : MkD) (x : ItemD) : HasI (gitemF m x) x.id := ⟨x, by simp [gitemF], rfl⟩
theorem more_task (m : MkD) (x : Nat) : MoreI m (gtaskF m x) := ⟨[gtaskI m x], rfl⟩
theorem has_task (m : MkD) (x : Nat) : HasI (gtaskF m x) (gnameF m chT) := ⟨gtaskI m x, by simp [gtaskF], rfl⟩
/-- What holds behind a part. -/
structure PartOk (I : MkD → Prop) (m : MkD) (r : ByteArray × MkD) : Prop where
  inv : I r.2
  has : HasI r.2 r.1
  more : MoreI m r.2
theorem gkind_or (k : Nat) : gkind k = 4 ∨ gkind k = 5 := by unfold gkind; split <;> simp
section
variable {I : MkD → Prop}
theorem leaf_ok (h : GenInv I) {m : MkD} {src : ByteArray} (x : Nat) (hi : I m) (hs : HasI m src) : PartOk I m (gleafF m src x) :=
  ⟨h.seq _ _ _ (hs.more (more_task m x)) (has_task m x) (h.task m x hi), (has_task m x).more (more_seq _ _ _), (more_task m x).trans (more_seq _ _ _)⟩
theorem open_ok (h : GenInv I) {m : MkD} {src : ByteArray} (k : Nat) (hi : I m) (hs : HasI m src) : PartOk I m (gnameF m chG, gopenF m src k) := by
  have h1 := h.item m (gkind k) (gkind_or k) hi
  have h2 : HasI (gitemF (gnamedF m) (gitem0 (gkind k) (gnameF m chG))) (gnameF m chG) := has_item _ _
  exact ⟨h.seq _ _ _ (hs.more (more_item m _)) h2 h1, h2.more (more_seq _ _ _), (more_item m _).trans (more_seq _ _ _)⟩
theorem close_ok (h : GenInv I) {m : MkD} {a s t : ByteArray} (k x : Nat) (hi : I m) (ha : HasI m a) (hs : HasI m s) (ht : HasI m t) : PartOk I m (gnameF m chG, gcloseF m a s t k x) := by
  have h1 := h.item m (gkind k) (gkind_or k) hi
  have h2 : HasI (gitemF (gnamedF m) (gitem0 (gkind k) (gnameF m chG))) (gnameF m chG) := has_item _ _
  have h3 := h.seq _ _ _ (hs.more (more_item m _)) h2 h1
  have h4 := h.seq _ _ _ ((ht.more (more_item m _)).more (more_seq _ s (gnameF m chG))) (h2.more (more_seq _ _ _)) h3
  have m4 := ((more_item m (gitem0 (gkind k) (gnameF m chG))).trans (more_seq _ s (gnameF m chG))).trans (more_seq _ t (gnameF m chG))
  have h5 := (h2.more (more_seq _ s (gnameF m chG))).more (more_seq _ t (gnameF m chG))
  unfold gcloseF
  dsimp only
  split
  · exact ⟨h.seq _ _ _ h5 (ha.more m4) h4, h5.more (more_seq _ _ _), m4.trans (more_seq _ _ _)⟩
  · exact ⟨h4, h5, m4⟩
theorem part_ok (h : GenInv I) : ∀ (d : Nat) (m : MkD) (src : ByteArray), I m → HasI m src → PartOk I m (gpartF d m src)
  | 0, m, src, hi, hs => by
    rw [gpartF_leaf (.inl rfl)]
    have := leaf_ok h (pickF m.p m.at_ / 8) (h.next m hi) (m := gnextF m) (src := src) hs
    exact ⟨this.inv, this.has, this.more⟩
  | d + 1, m, src, hi, hs => by
    by_cases h1 : pickF m.p m.at_ % 8 < 3 ∨ 9 < m.items.length
    · rw [gpartF_leaf (.inr h1)]
      have := leaf_ok h (pickF m.p m.at_ / 8) (h.next m hi) (m := gnextF m) (src := src) hs
      exact ⟨this.inv, this.has, this.more⟩
    · have hn := h.next m hi
      by_cases h5 : pickF m.p m.at_ % 8 < 5
      · rw [gpartF_seq h1 h5]
        have a := part_ok h d (gnextF m) src hn hs
        have b := part_ok h d _ _ a.inv a.has
        exact ⟨b.inv, b.has, MoreI.trans (b := (gpartF d (gnextF m) src).2) a.more b.more⟩
      · rw [gpartF_both h1 h5]
        dsimp only
        have o := open_ok h (m := gnextF m) (src := src) (pickF m.p m.at_ % 8) hn hs
        have a := part_ok h d _ _ o.inv o.has
        have b := part_ok h d _ _ a.inv (o.has.more a.more)
        have c := close_ok h (pickF m.p m.at_ % 8) (pickF m.p m.at_) b.inv ((o.has.more a.more).more b.more) (a.has.more b.more) b.has
        exact ⟨c.inv, c.has, ((o.more.trans a.more).trans b.more).trans c.more⟩
end
/-- A maker behind its start. -/
def gstartF (m : MkD) : MkD := gitemF (gnamedF m) (gitem0 1 (gnameF m chB_))
/-- .. and behind its part. -/
def gbodyF (m : MkD) (deep : Nat) : ByteArray × MkD := gpartF deep (gstartF m) (gnameF m chB_)
theorem glevel_eq (m : MkD) (deep : Nat) : glevelF m deep = gseqF (gitemF (gnamedF (gbodyF m deep).2) (gitem0 2 (gnameF (gbodyF m deep).2 chE))) (gbodyF m deep).1 (gnameF (gbodyF m deep).2 chE) := rfl
theorem body_ok {I : MkD → Prop} (h : GenInv I) {m : MkD} (deep : Nat) (hi : I (gstartF m)) : PartOk I (gstartF m) (gbodyF m deep) := part_ok h deep _ _ hi (has_item _ _)

/-- An item as the generator makes it. -/
structure PlainI (x : ItemD) : Prop where
  kind : 1 ≤ x.kind ∧ x.kind ≤ 5
  id : x.id.size ≤ 20
  first : x.kind ≠ 3 → x.first = ⟨#[]⟩
  parts : x.parts.length ≤ 2
  flows : x.flows.length ≤ 2
  flowIds : ∀ f ∈ x.flows, f.size ≤ 20
  called : x.called = ⟨#[]⟩
  maps : x.maps = []
  items : x.items = []
  seqs : x.seqs = []
theorem gname_size (m : MkD) (s : ByteArray) (hp : m.pre.size ≤ 10) (hs : s.size ≤ 1) : (gnameF m s).size ≤ 20 := by
  unfold gnameF idF
  rw [ByteArray.size_append, ByteArray.size_append]
  have : (⟨#[UInt8.ofNat (97 + (m.n + 1) / 26 % 26), UInt8.ofNat (97 + (m.n + 1) % 26)]⟩ : ByteArray).size = 2 := rfl
  omega
theorem plain_item0 {m : MkD} (hp : m.pre.size ≤ 10) (k : Int) (hk : k = 1 ∨ k = 2 ∨ k = 4 ∨ k = 5) (s : ByteArray) (hs : s.size ≤ 1) : PlainI (gitem0 k (gnameF m s)) :=
  ⟨by show 1 ≤ k ∧ k ≤ 5; omega, gname_size m s hp hs, fun _ => rfl, by show 0 ≤ 2; omega, by show 0 ≤ 2; omega, fun f hf => by simp [gitem0] at hf, rfl, rfl, rfl, rfl⟩
theorem plain_task {m : MkD} (hp : m.pre.size ≤ 10) (x : Nat) : PlainI (gtaskI m x) := by
  refine ⟨by show (1 : Int) ≤ 3 ∧ (3 : Int) ≤ 5; omega, gname_size m chT hp (by decide), fun h => absurd rfl h, by simp [gtaskI], ?_, ?_, rfl, rfl, rfl, rfl⟩
  · unfold gtaskI
    cases gback x <;> simp
  · intro f hf
    unfold gtaskI at hf
    have h1 := gname_size (gnamedF m) chF hp (by decide)
    have h2 := gname_size (gnamedF (gnamedF m)) chF hp (by decide)
    cases hb : gback x <;> rw [hb] at hf <;> simp at hf
    · rw [hf]; exact h1
    · rcases hf with hf | hf <;> rw [hf] <;> assumption
structure PlainM (m : MkD) : Prop where
  pre : m.pre.size ≤ 10
  items : ∀ x ∈ m.items, PlainI x
  flows : ∀ f ∈ m.flows, f.id.size ≤ 20
  seqs : ∀ s ∈ m.seqs, s.id.size ≤ 20 ∧ s.src.size ≤ 20 ∧ s.dst.size ≤ 20
theorem HasI.size {m : MkD} {a : ByteArray} (h : HasI m a) (hp : PlainM m) : a.size ≤ 20 := by
  obtain ⟨x, hx, rfl⟩ := h
  exact (hp.items x hx).id
theorem plain_push {m : MkD} {x : ItemD} (h : PlainM m) (hx : PlainI x) : PlainM (gitemF (gnamedF m) x) :=
  ⟨h.pre, fun y hy => by
    have hy' : y ∈ m.items ++ [x] := hy
    rcases List.mem_append.1 hy' with hy' | hy'
    · exact h.items y hy'
    · rw [List.mem_singleton.1 hy']; exact hx, h.flows, h.seqs⟩
theorem plain_inv : GenInv PlainM where
  next m h := ⟨h.pre, h.items, h.flows, h.seqs⟩
  task m x h := by
    refine ⟨h.pre, fun y hy => ?_, fun f hf => ?_, h.seqs⟩
    · have hy' : y ∈ m.items ++ [gtaskI m x] := hy
      rcases List.mem_append.1 hy' with hy' | hy'
      · exact h.items y hy'
      · rw [List.mem_singleton.1 hy']; exact plain_task h.pre x
    · have hf' : f ∈ m.flows ++ gtaskL m x := hf
      rcases List.mem_append.1 hf' with hf' | hf'
      · exact h.flows f hf'
      · have h1 := gname_size (gnamedF m) chF h.pre (by decide)
        have h2 := gname_size (gnamedF (gnamedF m)) chF h.pre (by decide)
        unfold gtaskL at hf'
        cases hb : gback x <;> rw [hb] at hf' <;> simp at hf'
        · rw [hf']; exact h1
        · rcases hf' with hf' | hf' <;> rw [hf'] <;> assumption
  item m k hk h := plain_push h (plain_item0 h.pre k (by omega) chG (by decide))
  seq m a b ha hb h := by
    refine ⟨h.pre, h.items, h.flows, fun s hs => ?_⟩
    have hs' : s ∈ m.seqs ++ [⟨gnameF m chS, a, b⟩] := hs
    rcases List.mem_append.1 hs' with hs' | hs'
    · exact h.seqs s hs'
    · rw [List.mem_singleton.1 hs']
      exact ⟨gname_size m chS h.pre (by decide), ha.size h, hb.size h⟩
theorem plain_level {m : MkD} (h : PlainM m) (deep : Nat) : PlainM (glevelF m deep) := by
  have b := body_ok plain_inv deep (plain_push h (plain_item0 h.pre 1 (.inl rfl) chB_ (by decide)))
  have h2 := plain_push b.inv (plain_item0 b.inv.pre 2 (.inr (.inl rfl)) chE (by decide))
  rw [glevel_eq]
  exact plain_inv.seq _ _ _ (b.has.more (more_item _ _)) (has_item _ _) h2
theorem plain_chor (p : List Int) (pre : ByteArray) (hpre : pre.size ≤ 10) : PlainM (gmakeF p pre) :=
  plain_level ⟨hpre, fun x hx => by simp [gbeginF] at hx, fun x hx => by simp [gbeginF] at hx, fun x hx => by simp [gbeginF] at hx⟩ 3
theorem plain_in (q : List Int) (parts : List PartD) : PlainM (ginF q parts) :=
  plain_level ⟨show (⟨#[121]⟩ : ByteArray).size ≤ 10 by decide, fun x hx => by simp at hx, fun x hx => by simp at hx, fun x hx => by simp at hx⟩ 1
/-- No end so far. -/
def NoEnd (m : MkD) : Prop := ∀ x ∈ m.items, x.kind ≠ 2
theorem noEnd_push {m : MkD} {x : ItemD} (h : NoEnd m) (hx : x.kind ≠ 2) : NoEnd (gitemF (gnamedF m) x) := fun y hy => by
  have hy' : y ∈ m.items ++ [x] := hy
  rcases List.mem_append.1 hy' with hy' | hy'
  · exact h y hy'
  · rw [List.mem_singleton.1 hy']; exact hx
theorem noEnd_inv : GenInv NoEnd where
  next m h := h
  task m x h := fun y hy => by
    have hy' : y ∈ m.items ++ [gtaskI m x] := hy
    rcases List.mem_append.1 hy' with hy' | hy'
    · exact h y hy'
    · rw [List.mem_singleton.1 hy']; show (3 : Int) ≠ 2; decide
  item m k hk h := noEnd_push h (by show k ≠ 2; omega)
  seq m a b ha hb h := h
theorem one_end {m : MkD} (h : m.items = []) (deep : Nat) : ((glevelF m deep).items.filter (fun y => y.kind == 2)).length = 1 := by
  have b := (body_ok noEnd_inv (m := m) deep (noEnd_push (fun x hx => by rw [h] at hx; simp at hx) (by show (1 : Int) ≠ 2; decide))).inv
  have he : (glevelF m deep).items = (gbodyF m deep).2.items ++ [gitem0 2 (gnameF (gbodyF m deep).2 chE)] := by rw [glevel_eq]; rfl
  rw [he, List.filter_append]
  have h0 : (gbodyF m deep).2.items.filter (fun y => y.kind == 2) = [] := List.filter_eq_nil_iff.2 (fun x hx => by have := b x hx; simpa using this)
  rw [h0]
  rfl
/-- The last of what follows what ends at the end. -/
theorem grow_level' (m : MkD) (deep : Nat) : GrowM (gG deep + 6) m (glevelF m deep) := by
  rw [glevel_eq]
  have h1 : GrowM 2 m (gstartF m) := (grow_named m).trans (grow_item _ _)
  have h2 : GrowM (gG deep) (gstartF m) (gbodyF m deep).2 := grow_part _ _ _
  exact ((h1.trans h2).trans (((grow_named _).trans (grow_item _ _)).trans (grow_seq _ _ _))).mono (by omega)
end Go.Proofs.Yteoioboiniealaa
