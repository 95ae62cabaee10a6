/- Plain law: a nested document with one thing that tells of something that is not there. -/
import Derived.Test.YtljmghaplnkohaaIdsLaw
import Derived.Test.YtljmghaplnkohaaIdsY
namespace Go.Proofs.Ytljmghaplnkohaa
open Go.RowKit

theorem part_task : ∀ (d : Nat) (m : MkD) (src : ByteArray), ∃ y ∈ (gpartF d m src).2.items, y.kind = 3
  | 0, m, src => by
    rw [gpartF_leaf (.inl rfl)]
    unfold gleafF gseqF gtaskF
    exact ⟨gtaskI _ _, List.mem_append_right _ (List.mem_singleton.2 rfl), rfl⟩
  | d + 1, m, src => by
    by_cases h1 : pickF m.p m.at_ % 8 < 3 ∨ 9 < m.items.length
    · rw [gpartF_leaf (.inr h1)]
      unfold gleafF gseqF gtaskF
      exact ⟨gtaskI _ _, List.mem_append_right _ (List.mem_singleton.2 rfl), rfl⟩
    · by_cases h5 : pickF m.p m.at_ % 8 < 5
      · rw [gpartF_seq h1 h5]
        exact part_task d _ _
      · rw [gpartF_both h1 h5]
        dsimp only
        obtain ⟨y, hy, h3⟩ := part_task d (gpartF d (gopenF (gnextF m) src (pickF m.p m.at_ % 8)) (gnameF (gnextF m) chG)).2 (gnameF (gnextF m) chG)
        refine ⟨y, ?_, h3⟩
        unfold gcloseF
        dsimp only
        split
        · exact List.mem_append_left _ hy
        · exact List.mem_append_left _ hy
theorem level_task (m : MkD) (deep : Nat) : ∃ y ∈ (glevelF m deep).items, y.kind = 3 := by
  rw [glevel_eq]
  obtain ⟨y, hy, h3⟩ := part_task deep (gstartF m) (gnameF m chB_)
  exact ⟨y, List.mem_append_left _ hy, h3⟩
def TwoM (m : MkD) : Prop := ∀ y ∈ m.items, y.kind = 3 → y.parts.length = 2
theorem two_push {m : MkD} {x : ItemD} (h : TwoM m) (hx : x.kind = 3 → x.parts.length = 2) : TwoM (gitemF (gnamedF m) x) := fun y hy => by
  have hy' : y ∈ m.items ++ [x] := hy
  rcases List.mem_append.1 hy' with hy' | hy'
  · exact h y hy'
  · rw [List.mem_singleton.1 hy']; exact hx
theorem two_inv : GenInv TwoM where
  next _ h := h
  task m x h := fun y hy => by
    have hy' : y ∈ m.items ++ [gtaskI m x] := hy
    rcases List.mem_append.1 hy' with hy' | hy'
    · exact h y hy'
    · rw [List.mem_singleton.1 hy']; intro _; rfl
  item m k hk h := two_push h (fun e => by have : k = 3 := e; omega)
  seq _ _ _ _ _ h := h
theorem two_level {m : MkD} (h : TwoM m) (deep : Nat) : TwoM (glevelF m deep) := by
  have b := (body_ok two_inv (m := m) deep (two_push h (fun e => absurd (show (1 : Int) = 3 from e) (by decide)))).inv
  rw [glevel_eq]
  exact two_push b (fun e => absurd (show (2 : Int) = 3 from e) (by decide))
/-- What IdsRefs asks of a nested document. -/
structure RefN (d : DocD) (c x : ChorD) (l : List ItemD) (call sub : ItemD) : Prop where
  nest : NestI d c x
  items : c.items = l ++ [call, sub]
  callK : call.kind = 8
  callC : call.called = ⟨#[100]⟩
  two : ∀ y ∈ c.items, y.kind = 3 → y.parts.length = 2
  task : ∃ y ∈ c.items, y.kind = 3
  partsP : ∀ y ∈ c.parts, ∃ i, i < 4 ∧ y.id = gpn i
  partsX : ∀ y ∈ x.parts, ∃ i, i < 4 ∧ y.id = (⟨#[120]⟩ : ByteArray) ++ gpn i
  flowsF : ∀ y ∈ c.flows, y.id.data.toList.headD 0 ≠ 120
  low : ∀ y ∈ c.items, lowB y.id
  lS : 0 < c.seqs.length ∧ c.seqs.length ≤ 200
theorem low_litB {l : List UInt8} (h : ∀ b ∈ l, 97 ≤ b.toNat ∧ b.toNat ≤ 122) : lowB ⟨l.toArray⟩ := h
theorem ref_n (p q : List Int) (hp : p.length ≤ maxLen) (hq : q.length ≤ maxLen) : ∃ d c x l call sub, d = gnestedF p q ∧ RefN d c x l call sub := by
  obtain ⟨c0, x0, hN⟩ := nest_i p q hp hq
  obtain ⟨mc, hmc⟩ : ∃ m, m = gmakeF p ⟨#[]⟩ := ⟨_, rfl⟩
  obtain ⟨mx, hmx⟩ : ∃ m, m = gmakeF q ⟨#[120]⟩ := ⟨_, rfl⟩
  have hfc := gchor_facts p hp ⟨#[99]⟩ ⟨#[]⟩ (by decide)
  have lc : mc.parts.length ≤ 4 ∧ mc.flows.length ≤ 108 ∧ mc.items.length ≤ 108 ∧ mc.seqs.length ≤ 108 ∧ 1 ≤ mc.seqs.length := by rw [hmc]; exact hfc.2
  obtain ⟨kc, _, prc⟩ := key_make p ⟨#[]⟩ low_nil
  obtain ⟨P, hP⟩ : ∃ P, P = gmoreF mx.parts.length mc.parts := ⟨_, rfl⟩
  obtain ⟨my, hmy⟩ : ∃ m, m = ginF q P := ⟨_, rfl⟩
  obtain ⟨ky, _, pry⟩ := key_in q P
  rw [← hmc] at kc prc
  rw [← hmy] at ky pry
  have pc : PlainM mc := by rw [hmc]; exact plain_chor p ⟨#[]⟩ (by decide)
  obtain ⟨call, hcall⟩ : ∃ x, x = gcallF (gchorF q ⟨#[100]⟩ ⟨#[120]⟩) P q := ⟨_, rfl⟩
  obtain ⟨c, hc⟩ : ∃ c : ChorD, c = ⟨⟨#[99]⟩, P, mc.flows ++ my.flows, mc.items ++ [call, gsubF my], gseqsF mc.seqs⟩ := ⟨_, rfl⟩
  obtain ⟨x, hx⟩ : ∃ x : ChorD, x = ⟨⟨#[100]⟩, mx.parts, mx.flows, mx.items, mx.seqs⟩ := ⟨_, rfl⟩
  have hd : gnestedF p q = ⟨gmsgsF, [c, x]⟩ := by rw [hc, hx, hcall, hmy, hP, hmx, hmc]; rfl
  have he := hN.eq
  rw [hd] at he
  injection he with _ he
  injection he with h1 he
  injection he with h2 _
  subst h1
  subst h2
  have hbc : mc.parts.map (·.id) = (List.range (2 + pickF p 0 % 16 % 3)).map gpn := by
    have hg := grow_levelI (gbeginF p (2 + pickF p 0 % 16 % 3) ⟨#[]⟩) 3
    have : mc.parts = (gbeginF p (2 + pickF p 0 % 16 % 3) ⟨#[]⟩).parts := by rw [hmc]; exact hg.parts
    rw [this, gparts_begin]
    exact List.map_congr_left (fun i _ => ByteArray.empty_append)
  have hbx : mx.parts.map (·.id) = (List.range (2 + pickF q 0 % 16 % 3)).map (fun i => (⟨#[120]⟩ : ByteArray) ++ gpn i) := by
    have hg := grow_levelI (gbeginF q (2 + pickF q 0 % 16 % 3) ⟨#[120]⟩) 3
    have : mx.parts = (gbeginF q (2 + pickF q 0 % 16 % 3) ⟨#[120]⟩).parts := by rw [hmx]; exact hg.parts
    rw [this, gparts_begin]
  have lx : mx.parts.length = 2 + pickF q 0 % 16 % 3 := by
    have := congrArg List.length hbx
    simpa using this
  obtain ⟨N, hPN, hN4, _⟩ := gmore_ids mx.parts.length _ mc.parts hbc
  rw [← hP] at hPN
  have e1 : c.items = mc.items ++ [call, gsubF my] := by rw [hc]
  have e2 : c.flows = mc.flows ++ my.flows := by rw [hc]
  have e3 : c.parts = P := by rw [hc]
  have e4 : c.seqs = gseqsF mc.seqs := by rw [hc]
  have e5 : x.parts = mx.parts := by rw [hx]
  have t2 : TwoM mc := by rw [hmc]; exact two_level (fun y hy => by simp [gbeginF] at hy) 3
  have tt : ∃ y ∈ mc.items, y.kind = 3 := by rw [hmc]; exact level_task _ 3
  refine ⟨_, c, x, mc.items, call, gsubF my, rfl, hN, e1, by rw [hcall]; rfl, by rw [hcall]; rfl, ?_, ?_, ?_, ?_, ?_, ?_, ?_⟩
  · intro y hy h3
    rw [e1] at hy
    rcases List.mem_append.1 hy with hy | hy
    · exact t2 y hy h3
    · simp only [List.mem_cons, List.not_mem_nil, or_false] at hy
      rcases hy with rfl | rfl
      · rw [hcall] at h3; exact absurd (show (8 : Int) = 3 from h3) (by decide)
      · exact absurd (show (7 : Int) = 3 from h3) (by decide)
  · obtain ⟨y, hy, h3⟩ := tt
    exact ⟨y, by rw [e1]; exact List.mem_append_left _ hy, h3⟩
  · intro y hy
    rw [e3] at hy
    have : y.id ∈ P.map (·.id) := List.mem_map.2 ⟨y, hy, rfl⟩
    rw [hPN] at this
    obtain ⟨i, hi, e⟩ := List.mem_map.1 this
    exact ⟨i, by have := List.mem_range.1 hi; omega, e.symm⟩
  · intro y hy
    rw [e5] at hy
    have : y.id ∈ mx.parts.map (·.id) := List.mem_map.2 ⟨y, hy, rfl⟩
    rw [hbx] at this
    obtain ⟨i, hi, e⟩ := List.mem_map.1 this
    exact ⟨i, by have := List.mem_range.1 hi; omega, e.symm⟩
  · intro y hy
    rw [e2] at hy
    rcases List.mem_append.1 hy with hy | hy
    · obtain ⟨_, _, r, hr, h⟩ := kc.flows y hy
      rw [hr, prc, show (⟨#[]⟩ : ByteArray) ++ r = r from ByteArray.empty_append]; exact h
    · obtain ⟨_, _, r, hr, _⟩ := ky.flows y hy
      rw [hr, pry, ByteArray.data_append, Array.toList_append]
      show (121 : UInt8) ≠ 120
      decide
  · intro y hy
    rw [e1] at hy
    rcases List.mem_append.1 hy with hy | hy
    · exact (kc.items y hy).1
    · simp only [List.mem_cons, List.not_mem_nil, or_false] at hy
      rcases hy with rfl | rfl
      · rw [hcall]; exact low_litB (l := [99, 97, 108, 108]) (by decide)
      · exact low_litB (l := [115, 117, 98]) (by decide)
  · rw [e4]
    have : (gseqsF mc.seqs).length = mc.seqs.length + 2 := by
      unfold gseqsF
      simp
      omega
    omega
theorem eqS_no {a b : ByteArray} (h : a ≠ b) : eqS a b = false := by
  cases h2 : eqS a b
  · rfl
  · exact absurd ((eqS_iff a b).1 h2) h
theorem part_no {c : ChorD} {p : ByteArray} (h : ∀ y ∈ c.parts, y.id ≠ p) : partAt c p = -1 := find_noneI 0 (fun y hy => eqS_no (h y hy))
theorem flow_no {c : ChorD} {p : ByteArray} (h : ∀ y ∈ c.flows, y.id ≠ p) : flowAt c p = -1 := find_noneI 0 (fun y hy => eqS_no (h y hy))
theorem item_no {l : List ItemD} {p : ByteArray} (h : ∀ y ∈ l, y.id ≠ p) : itemAt l p = -1 := find_noneI 0 (fun y hy => eqS_no (h y hy))
theorem gpn_no : ∀ i, i < 4 → gpn i ≠ ⟨#[120, 112, 97]⟩ ∧ gpn i ≠ ⟨#[109, 97]⟩ ∧ gpn i ≠ ⟨#[110, 111]⟩ ∧ (⟨#[120]⟩ : ByteArray) ++ gpn i ≠ ⟨#[112, 97]⟩ := by decide +kernel
/-- An item is another, its id and what is within it the same. -/
theorem idsL_set {l : List ItemD} {k : Nat} (hk : k < l.length) {y : ItemD} (h1 : y.id = l[k].id) (h2 : y.items = l[k].items) (h3 : y.seqs = l[k].seqs) : idsL (l.set k y) = idsL l := by
  conv => rhs; rw [← List.take_append_drop k l, List.drop_eq_getElem_cons hk]
  rw [List.set_eq_take_append_cons_drop, if_pos hk, idsL_append, idsL_append, idsL, idsL, idsI_eq, idsI_eq, h1, h2, h3]
theorem map_set_id {α : Type} (f : α → ByteArray) {l : List α} {k : Nat} (hk : k < l.length) {y : α} (h : f y = f l[k]) : (l.set k y).map f = l.map f := by
  conv => rhs; rw [← List.take_append_drop k l, List.drop_eq_getElem_cons hk]
  rw [List.set_eq_take_append_cons_drop, if_pos hk, List.map_append, List.map_append, List.map_cons, List.map_cons, h]
/-- A document of the same ids with a choreography that is wrong. -/
structure WrongC (d : DocD) (c' x : ChorD) : Prop where
  refs : refsF ⟨gmsgsF, [c', x]⟩ = false
  chk : checkF ⟨gmsgsF, [c', x]⟩ = 6
  fit : IdsFit [] (idsD ⟨gmsgsF, [c', x]⟩)
theorem wrong_of {d : DocD} {c x c' : ChorD} (h : NestI d c x) (hid : c'.id = c.id) (hp : c'.parts = c.parts) (hf : c'.flows.map (·.id) = c.flows.map (·.id)) (hi : idsL c'.items = idsL c.items) (hs : c'.seqs.map (·.id) = c.seqs.map (·.id))
    (hok : okC ⟨gmsgsF, [c', x]⟩ c' = false) : WrongC d c' x := by
  have e : idsD ⟨gmsgsF, [c', x]⟩ = idsD d := by
    have ec : idsC c' = idsC c := by unfold idsC; rw [hid, hp, hf, hi, hs]
    rw [h.eq]
    show gmsgsF.map (·.id) ++ (idsC c' ++ (idsC x ++ [])) = gmsgsF.map (·.id) ++ (idsC c ++ (idsC x ++ []))
    rw [ec]
  have hr : refsF ⟨gmsgsF, [c', x]⟩ = false := by
    unfold refsF
    rw [List.all_cons, hok, Bool.false_and]
  refine ⟨hr, ?_, by rw [e]; exact h.fit⟩
  unfold checkF
  rw [e, h.adds, if_pos rfl, if_neg (by rw [hr]; decide)]
theorem okC_item {d : DocD} {c : ChorD} {y : ItemD} (hy : y ∈ c.items) (h : okI d c y = false) : okC d c = false := by
  unfold okC
  have : okL d c c.items = false := by
    cases he : okL d c c.items
    · rfl
    · rw [(okL_all d c).1 he y hy] at h; exact absurd h (by decide)
  rw [this, Bool.false_and, Bool.and_false]
theorem okC_flow {d : DocD} {c : ChorD} {f : FlowD} (hf : f ∈ c.flows) (h : badFlow d c f = true) : okC d c = false := by
  unfold okC
  rw [List.any_eq_true.2 ⟨f, hf, h⟩]
  rfl
theorem okC_seq {d : DocD} {c : ChorD} {s : SeqD} (hs : s ∈ c.seqs) (h : badSeq c.items s = true) : okC d c = false := by
  unfold okC okSeqs
  rw [List.any_eq_true.2 ⟨s, hs, h⟩, Bool.not_true, Bool.and_false, Bool.and_false]
section
variable {d : DocD} {c x : ChorD} {l : List ItemD} {call sub : ItemD}
def setFirst (y : ItemD) (a : ByteArray) : ItemD := ⟨y.kind, y.id, a, y.parts, y.flows, y.loop, y.called, y.maps, y.items, y.seqs⟩
def setParts (y : ItemD) (a : List ByteArray) : ItemD := ⟨y.kind, y.id, y.first, a, y.flows, y.loop, y.called, y.maps, y.items, y.seqs⟩
def setFlows (y : ItemD) (a : List ByteArray) : ItemD := ⟨y.kind, y.id, y.first, y.parts, a, y.loop, y.called, y.maps, y.items, y.seqs⟩
def setCalled (y : ItemD) (a : ByteArray) : ItemD := ⟨y.kind, y.id, y.first, y.parts, y.flows, y.loop, a, y.maps, y.items, y.seqs⟩
def setMaps (y : ItemD) (a : List MapD) : ItemD := ⟨y.kind, y.id, y.first, y.parts, y.flows, y.loop, y.called, a, y.items, y.seqs⟩
def withItem (c : ChorD) (k : Nat) (y : ItemD) : ChorD := ⟨c.id, c.parts, c.flows, c.items.set k y, c.seqs⟩
def withFlow (c : ChorD) (k : Nat) (y : FlowD) : ChorD := ⟨c.id, c.parts, c.flows.set k y, c.items, c.seqs⟩
def withSeq (c : ChorD) (k : Nat) (y : SeqD) : ChorD := ⟨c.id, c.parts, c.flows, c.items, c.seqs.set k y⟩
theorem wrong_item (h : NestI d c x) {k : Nat} (hk : k < c.items.length) {y : ItemD} (h1 : y.id = c.items[k].id) (h2 : y.items = c.items[k].items) (h3 : y.seqs = c.items[k].seqs) (hok : okI ⟨gmsgsF, [withItem c k y, x]⟩ (withItem c k y) y = false) : WrongC d (withItem c k y) x :=
  wrong_of h rfl rfl rfl (idsL_set hk h1 h2 h3) rfl (okC_item (c := withItem c k y) (List.mem_set hk y) hok)
theorem wrong0 (h : RefN d c x l call sub) {k : Nat} (hk : k < c.items.length) (h3 : c.items[k].kind = 3) : WrongC d (withItem c k (setFirst c.items[k] ⟨#[120, 112, 97]⟩)) x := by
  refine wrong_item h.nest hk rfl rfl rfl ?_
  rw [okI_eq]
  show (if c.items[k].kind = 3 then _ else _) = false
  rw [if_pos h3]
  unfold okTask
  have : partAt (withItem c k (setFirst c.items[k] ⟨#[120, 112, 97]⟩)) (setFirst c.items[k] ⟨#[120, 112, 97]⟩).first = -1 := part_no (fun y hy => by
    obtain ⟨i, hi, e⟩ := h.partsP y hy
    rw [e]; exact (gpn_no i hi).1)
  rw [this]
  rfl
theorem wrong1 (h : RefN d c x l call sub) {k : Nat} (hk : k < c.items.length) (h3 : c.items[k].kind = 3) (p : ByteArray) : WrongC d (withItem c k (setParts c.items[k] [p, ⟨#[109, 97]⟩])) x := by
  refine wrong_item h.nest hk rfl rfl rfl ?_
  rw [okI_eq]
  show (if c.items[k].kind = 3 then _ else _) = false
  rw [if_pos h3]
  unfold okTask
  have : partAt (withItem c k (setParts c.items[k] [p, ⟨#[109, 97]⟩])) ⟨#[109, 97]⟩ = -1 := part_no (fun y hy => by
    obtain ⟨i, hi, e⟩ := h.partsP y hy
    rw [e]; exact (gpn_no i hi).2.1)
  rw [show (setParts c.items[k] [p, ⟨#[109, 97]⟩]).parts = [p, ⟨#[109, 97]⟩] from rfl, List.any_cons, List.any_cons, this]
  simp
theorem wrong2 (h : RefN d c x l call sub) {k : Nat} (hk : k < c.items.length) (h3 : c.items[k].kind = 3) : WrongC d (withItem c k (setFlows c.items[k] [⟨#[120, 102, 97]⟩])) x := by
  refine wrong_item h.nest hk rfl rfl rfl ?_
  rw [okI_eq]
  show (if c.items[k].kind = 3 then _ else _) = false
  rw [if_pos h3]
  unfold okTask
  have : flowAt (withItem c k (setFlows c.items[k] [⟨#[120, 102, 97]⟩])) ⟨#[120, 102, 97]⟩ = -1 := flow_no (fun y hy e => by
    have := h.flowsF y hy
    rw [e] at this
    exact this rfl)
  rw [show (setFlows c.items[k] [⟨#[120, 102, 97]⟩]).flows = [⟨#[120, 102, 97]⟩] from rfl, List.any_cons, this]
  simp
theorem wrong3 (h : RefN d c x l call sub) {k : Nat} (hk : k < c.flows.length) : WrongC d (withFlow c k ⟨c.flows[k].id, ⟨#[110, 111]⟩, c.flows[k].dst, c.flows[k].msg⟩) x := by
  refine wrong_of h.nest rfl rfl (map_set_id (fun y : FlowD => y.id) hk (y := ⟨c.flows[k].id, ⟨#[110, 111]⟩, c.flows[k].dst, c.flows[k].msg⟩) rfl) rfl rfl (okC_flow (c := withFlow c k _) (List.mem_set hk _) ?_)
  unfold badFlow
  have : partAt (withFlow c k ⟨c.flows[k].id, ⟨#[110, 111]⟩, c.flows[k].dst, c.flows[k].msg⟩) ⟨#[110, 111]⟩ = -1 := part_no (fun y hy => by
    obtain ⟨i, hi, e⟩ := h.partsP y hy
    rw [e]; exact (gpn_no i hi).2.2.1)
  rw [this]
  rfl
theorem wrong4 (h : RefN d c x l call sub) {k : Nat} (hk : k < c.flows.length) : WrongC d (withFlow c k ⟨c.flows[k].id, c.flows[k].src, c.flows[k].dst, ⟨#[99]⟩⟩) x := by
  refine wrong_of h.nest rfl rfl (map_set_id (fun y : FlowD => y.id) hk (y := ⟨c.flows[k].id, c.flows[k].src, c.flows[k].dst, ⟨#[99]⟩⟩) rfl) rfl rfl (okC_flow (c := withFlow c k _) (List.mem_set hk _) ?_)
  unfold badFlow
  have : msgAt ⟨gmsgsF, [withFlow c k ⟨c.flows[k].id, c.flows[k].src, c.flows[k].dst, ⟨#[99]⟩⟩, x]⟩ ⟨#[99]⟩ = -1 := by
    unfold msgAt
    show findFrom _ gmsgsF 0 = -1
    decide +kernel
  rw [this]
  simp
theorem wrong5 (h : RefN d c x l call sub) : WrongC d (withSeq c 0 ⟨(c.seqs[0]'h.lS.1).id, (c.seqs[0]'h.lS.1).src, ⟨#[115, 117, 98, 46, 101]⟩⟩) x := by
  refine wrong_of h.nest rfl rfl rfl rfl (map_set_id (fun y : SeqD => y.id) h.lS.1 (y := ⟨(c.seqs[0]'h.lS.1).id, (c.seqs[0]'h.lS.1).src, ⟨#[115, 117, 98, 46, 101]⟩⟩) rfl) (okC_seq (c := withSeq c 0 _) (List.mem_set h.lS.1 _) ?_)
  unfold badSeq
  have : itemAt (withSeq c 0 ⟨(c.seqs[0]'h.lS.1).id, (c.seqs[0]'h.lS.1).src, ⟨#[115, 117, 98, 46, 101]⟩⟩).items ⟨#[115, 117, 98, 46, 101]⟩ = -1 := item_no (fun y hy e => by
    have := h.low y hy
    rw [e] at this
    have := this 46 (by decide)
    revert this
    decide)
  rw [this]
  simp
theorem call_at (h : RefN d c x l call sub) : ∃ hk : l.length < c.items.length, c.items[l.length] = call ∧ c.items.length = l.length + 2 := by
  have e := h.items
  have hl : c.items.length = l.length + 2 := by rw [e]; simp
  refine ⟨by omega, ?_, hl⟩
  simp only [e]
  rw [List.getElem_append_right (Nat.le_refl _)]
  simp
theorem wrong6 (h : RefN d c x l call sub) : WrongC d (withItem c l.length (setCalled call ⟨#[120]⟩)) x := by
  obtain ⟨hk, e, _⟩ := call_at h
  have hy : setCalled call ⟨#[120]⟩ = setCalled c.items[l.length] ⟨#[120]⟩ := by rw [e]
  rw [hy]
  refine wrong_item h.nest hk rfl rfl rfl ?_
  rw [okI_eq]
  show (if c.items[l.length].kind = 3 then _ else if c.items[l.length].kind = 8 then _ else _) = false
  rw [e, h.callK, if_neg (by decide), if_pos rfl]
  unfold okCall
  have : chorAt ⟨gmsgsF, [withItem c l.length (setCalled call ⟨#[120]⟩), x]⟩ (setCalled call ⟨#[120]⟩).called = -1 := by
    unfold chorAt
    show findFrom (fun y : ChorD => eqS y.id ⟨#[120]⟩) [withItem c l.length (setCalled call ⟨#[120]⟩), x] 0 = -1
    rw [findFrom, findFrom, findFrom, show (withItem c l.length (setCalled call ⟨#[120]⟩)).id = ⟨#[99]⟩ from h.nest.cid, h.nest.xid]
    decide +kernel
  rw [this]
  rfl
theorem call_d (h : RefN d c x l call sub) (y : ItemD) : chorAt ⟨gmsgsF, [withItem c l.length y, x]⟩ ⟨#[100]⟩ = 1 := by
  unfold chorAt
  show findFrom (fun y : ChorD => eqS y.id ⟨#[100]⟩) [withItem c l.length y, x] 0 = 1
  rw [findFrom, findFrom, show (withItem c l.length y).id = ⟨#[99]⟩ from h.nest.cid, h.nest.xid]
  decide +kernel
theorem wrong7 (h : RefN d c x l call sub) (a : ByteArray) (b : ByteArray) (hab : (a = ⟨#[112, 97]⟩ ∧ b = a) ∨ (a = ⟨#[120, 112, 97]⟩ ∧ b = a)) : WrongC d (withItem c l.length (setMaps call [⟨a, b⟩])) x := by
  obtain ⟨hk, e, _⟩ := call_at h
  have hy : setMaps call [⟨a, b⟩] = setMaps c.items[l.length] [⟨a, b⟩] := by rw [e]
  rw [hy]
  refine wrong_item h.nest hk rfl rfl rfl ?_
  rw [okI_eq]
  show (if c.items[l.length].kind = 3 then _ else if c.items[l.length].kind = 8 then _ else _) = false
  rw [e, h.callK, if_neg (by decide), if_pos rfl]
  unfold okCall
  rw [show (setMaps call [⟨a, b⟩]).called = ⟨#[100]⟩ from h.callC, call_d h]
  show (true && !(List.any [(⟨a, b⟩ : MapD)] (badMap x (withItem c l.length (setMaps call [⟨a, b⟩]))))) = false
  rw [List.any_cons]
  have : badMap x (withItem c l.length (setMaps call [⟨a, b⟩])) ⟨a, b⟩ = true := by
    unfold badMap
    rcases hab with ⟨rfl, rfl⟩ | ⟨rfl, rfl⟩
    · have : partAt x ⟨#[112, 97]⟩ = -1 := part_no (fun y hy => by
        obtain ⟨i, hi, e⟩ := h.partsX y hy
        rw [e]; exact (gpn_no i hi).2.2.2)
      rw [this]
      rfl
    · have : partAt (withItem c l.length (setMaps call [⟨⟨#[120, 112, 97]⟩, ⟨#[120, 112, 97]⟩⟩])) ⟨#[120, 112, 97]⟩ = -1 := part_no (fun y hy => by
        obtain ⟨i, hi, e⟩ := h.partsP y hy
        rw [e]; exact (gpn_no i hi).1)
      rw [this]
      simp
  rw [this]
  rfl
/-- Nothing is changed. -/
theorem right9 (h : NestI d c x) : refsF ⟨gmsgsF, [c, x]⟩ = true ∧ checkF ⟨gmsgsF, [c, x]⟩ = 0 ∧ IdsFit [] (idsD ⟨gmsgsF, [c, x]⟩) := by
  have e : d = ⟨gmsgsF, [c, x]⟩ := h.eq
  rw [← e]
  refine ⟨h.refs, ?_, h.fit⟩
  unfold checkF
  rw [h.adds, if_pos rfl, if_pos h.refs]
end
end Go.Proofs.Ytljmghaplnkohaa
