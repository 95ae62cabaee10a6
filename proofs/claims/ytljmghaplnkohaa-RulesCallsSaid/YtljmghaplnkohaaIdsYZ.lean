/- Plain law: a document whose one item has another id, Plain: the task of a level; an item with another cell, joined. -/
import Derived.Test.YtljmghaplnkohaaIdsLaw
namespace Go.Proofs.Ytljmghaplnkohaa
open Go.RowKit

/-- Names: all are added, or one is there twice. -/
theorem adds_names : ∀ (l r : List ByteArray), (∀ a ∈ r, isName a = true) → l.Nodup → (addsF l r).1 = if (l ++ r).Nodup then 0 else 7
  | l, [], _, hl => by
    rw [addsF, List.append_nil, if_pos hl]
  | l, a :: r, hn, hl => by
    have ha := hn a (List.mem_cons_self ..)
    by_cases hm : a ∈ l
    · have h1 : addF l a = (7, l) := by
        unfold addF
        rw [if_neg (by rw [ha]; decide), if_pos (show (l.any fun x => eqS x a) = true from List.any_eq_true.2 ⟨a, hm, (eqS_iff _ _).2 rfl⟩)]
      rw [addsF_consN (by rw [h1]; exact (by decide : (7 : Int) ≠ 0)), h1, if_neg]
      intro h
      exact (List.nodup_append.1 h).2.2 a hm a (List.mem_cons_self ..) rfl
    · have h1 : addF l a = (0, l ++ [a]) := by
        unfold addF
        rw [if_neg (by rw [ha]; decide), if_neg]
        intro h
        obtain ⟨x, hx, he⟩ := List.any_eq_true.1 h
        rw [(eqS_iff _ _).1 he] at hx
        exact hm hx
      rw [addsF_cons0 (by rw [h1]), h1]
      have hl2 : (l ++ [a]).Nodup := List.nodup_append.2 ⟨hl, by simp, fun x hx y hy e => by rw [List.mem_singleton.1 hy] at e; rw [e] at hx; exact hm hx⟩
      have ih := adds_names (l ++ [a]) r (fun b hb => hn b (List.mem_cons_of_mem _ hb)) hl2
      rw [ih, List.append_assoc]
      rfl
/-- One id is another. -/
theorem adds_one {pre post : List ByteArray} {o : ByteArray} (t : ByteArray) (hd : (pre ++ o :: post).Nodup) (hn : ∀ a ∈ pre ++ o :: post, isName a = true) :
    (t ∈ pre ++ o :: post → t ≠ o → (addsF [] (pre ++ t :: post)).1 = 7) ∧ ((t ∉ pre ++ o :: post ∨ t = o) → isName t = true → (addsF [] (pre ++ t :: post)).1 = 0) ∧ (isName t = false → (addsF [] (pre ++ t :: post)).1 = 8) := by
  have hdp := List.nodup_append.1 hd
  have hdo := List.nodup_cons.1 hdp.2.1
  have hpre : addsF [] pre = (0, pre) := adds_all [] pre (fun a ha => hn a (List.mem_append_left _ ha)) hdp.1
  have hname : isName t = true → (addsF [] (pre ++ t :: post)).1 = if (pre ++ t :: post).Nodup then 0 else 7 := fun hb => by
    refine adds_names [] (pre ++ t :: post) (fun a ha => ?_) List.nodup_nil
    rcases List.mem_append.1 ha with h | h
    · exact hn a (List.mem_append_left _ h)
    · rcases List.mem_cons.1 h with h | h
      · rw [h]; exact hb
      · exact hn a (List.mem_append_right _ (List.mem_cons_of_mem _ h))
  refine ⟨fun hm hne => ?_, fun h hb => ?_, fun hb => ?_⟩
  · rw [hname (hn t hm), if_neg]
    intro h2
    have h3 := List.nodup_append.1 h2
    rcases List.mem_append.1 hm with hm | hm
    · exact h3.2.2 t hm t (List.mem_cons_self ..) rfl
    · rcases List.mem_cons.1 hm with he | hm
      · exact hne he
      · exact (List.nodup_cons.1 h3.2.1).1 hm
  · rw [hname hb, if_pos]
    have h4 : t ∉ pre := fun hm => by
      rcases h with h | h
      · exact h (List.mem_append_left _ hm)
      · exact hdp.2.2 t hm o (List.mem_cons_self ..) h
    have h5 : t ∉ post := fun hm => by
      rcases h with h | h
      · exact h (List.mem_append_right _ (List.mem_cons_of_mem _ hm))
      · exact hdo.1 (h ▸ hm)
    refine List.nodup_append.2 ⟨hdp.1, List.nodup_cons.2 ⟨h5, hdo.2⟩, fun a ha b hb e => ?_⟩
    rcases List.mem_cons.1 hb with he | hb
    · rw [e, he] at ha; exact h4 ha
    · exact hdp.2.2 a ha b (List.mem_cons_of_mem _ hb) e
  · rw [addsF_zero (by rw [hpre]), hpre]
    have h1 : addF pre t = (8, pre) := by unfold addF; rw [if_pos hb]
    rw [addsF_consN (by rw [h1]; exact (by decide : (8 : Int) ≠ 0)), h1]
/-- What the laws of layer 9 ask of a document of one choreography. -/
structure DocI (d : DocD) (c : ChorD) : Prop where
  eq : d = ⟨gmsgsF, [c]⟩
  cid : c.id = ⟨#[99]⟩
  nodup : (idsD d).Nodup
  names : ∀ a ∈ idsD d, isName a = true ∧ a.size ≤ 60
  len : (idsD d).length ≤ 2000
  plain : ∀ x ∈ c.items, PlainI x
  lI : 0 < c.items.length ∧ c.items.length ≤ 110
theorem doc_i (p : List Int) (hp : p.length ≤ maxLen) : ∃ c, DocI (gdocF p) c := by
  have pc : PlainM (gmakeF p ⟨#[]⟩) := plain_chor p ⟨#[]⟩ (by decide)
  have hfc := gchor_facts p hp ⟨#[99]⟩ ⟨#[]⟩ (by decide)
  obtain ⟨kc1, nc, prc⟩ := key_make p ⟨#[]⟩ low_nil
  obtain ⟨c1, c2, c3⟩ := name_maker kc1 (by rw [prc]; decide)
  obtain ⟨N, hN, hparts⟩ : ∃ N, N ≤ 4 ∧ (gmakeF p ⟨#[]⟩).parts.map (·.id) = (List.range N).map gpn := by
    refine ⟨2 + pickF p 0 % 16 % 3, by omega, ?_⟩
    have hg := grow_levelI (gbeginF p (2 + pickF p 0 % 16 % 3) ⟨#[]⟩) 3
    have : (gmakeF p ⟨#[]⟩).parts = (gbeginF p (2 + pickF p 0 % 16 % 3) ⟨#[]⟩).parts := hg.parts
    rw [this, gparts_begin]
    exact List.map_congr_left (fun i _ => ByteArray.empty_append)
  have hids : idsD (gdocF p) = [⟨#[109, 97]⟩, ⟨#[109, 98]⟩, ⟨#[109, 99]⟩, ⟨#[109, 100]⟩] ++ ((⟨#[99]⟩ : ByteArray) :: ((List.range N).map gpn ++ ((gmakeF p ⟨#[]⟩).flows.map (·.id) ++ ((gmakeF p ⟨#[]⟩).items.map (·.id) ++ (gmakeF p ⟨#[]⟩).seqs.map (·.id))))) := by
    unfold idsD idsCs gdocF
    rw [List.flatMap_cons, List.flatMap_nil, List.append_nil]
    unfold idsC gchorF
    simp only
    rw [idsL_plain pc.items, hparts]
    rfl
  refine ⟨gchorF p ⟨#[99]⟩ ⟨#[]⟩, rfl, rfl, ?_, ?_, ?_, pc.items, ?_⟩
  · rw [hids]
    refine nodup_of_rank (fun a => ?_)
    have fc := maker_fact kc1 10000 109 nc (fun s h1 h2 => by rw [prc] at h1 h2; exact rank_plain s h1 h2) a
    have fp := count_range gpn 390 N (fun i hi => rank_gpn i (by omega)) a
    change cntR ((List.range N).map gpn) a ≤ 1 ∧ (0 < cntR ((List.range N).map gpn) a → _) at fp
    have m1 := one_fact ⟨#[109, 97]⟩ 312 (by decide +kernel) a
    have m2 := one_fact ⟨#[109, 98]⟩ 313 (by decide +kernel) a
    have m3 := one_fact ⟨#[109, 99]⟩ 314 (by decide +kernel) a
    have m4 := one_fact ⟨#[109, 100]⟩ 315 (by decide +kernel) a
    have o1 := one_fact ⟨#[99]⟩ 54 (by decide +kernel) a
    show cntR _ a ≤ 1
    simp only [cnt_cons, cnt_app, cnt_nil]
    omega
  · have lit : ∀ l : List UInt8, 0 < l.length → l.length ≤ 60 → (∀ b ∈ l, 97 ≤ b.toNat ∧ b.toNat ≤ 122) → isName ⟨l.toArray⟩ = true ∧ (⟨l.toArray⟩ : ByteArray).size ≤ 60 := fun l h0 h60 h => ⟨isName_lit h0 h60 h, by simpa [ByteArray.size] using h60⟩
    rw [hids]
    intro a ha
    simp only [List.mem_append, List.mem_cons, List.not_mem_nil, or_false] at ha
    rcases ha with (rfl | rfl | rfl | rfl) | (rfl | ha | ha | ha | ha)
    · exact lit [109, 97] (by decide) (by decide) (by decide)
    · exact lit [109, 98] (by decide) (by decide) (by decide)
    · exact lit [109, 99] (by decide) (by decide) (by decide)
    · exact lit [109, 100] (by decide) (by decide) (by decide)
    · exact lit [99] (by decide) (by decide) (by decide)
    · obtain ⟨i, hi, rfl⟩ := List.mem_map.1 ha
      exact low_gpn i (by have := List.mem_range.1 hi; omega)
    · exact c2 a ha
    · exact c1 a ha
    · exact c3 a ha
  · rw [hids]
    have e1 := hfc.2.2
    have a1 : (gmakeF p ⟨#[]⟩).flows.length ≤ 108 := e1.1
    have a2 : (gmakeF p ⟨#[]⟩).items.length ≤ 108 := e1.2.1
    have a3 : (gmakeF p ⟨#[]⟩).seqs.length ≤ 108 := e1.2.2.1
    simp only [List.length_append, List.length_cons, List.length_nil, List.length_map, List.length_range]
    omega
  · have a2 : (gmakeF p ⟨#[]⟩).items.length ≤ 108 := hfc.2.2.2.1
    have h2 : 0 < (gmakeF p ⟨#[]⟩).items.length := by
      unfold gmakeF glevelF gseqF gitemF
      simp
    exact ⟨h2, by show (gmakeF p ⟨#[]⟩).items.length ≤ 110; omega⟩
/-- An item with another id. -/
def withId (x : ItemD) (t : ByteArray) : ItemD := ⟨x.kind, t, x.first, x.parts, x.flows, x.loop, x.called, x.maps, x.items, x.seqs⟩
def chorId (c : ChorD) (i : Nat) (h : i < c.items.length) (t : ByteArray) : ChorD := ⟨c.id, c.parts, c.flows, c.items.set i (withId c.items[i] t), c.seqs⟩
theorem idsL_flat : ∀ {l : List ItemD}, (∀ x ∈ l, x.items = [] ∧ x.seqs = []) → idsL l = l.map (·.id)
  | [], _ => by rw [idsL]; rfl
  | x :: l, h => by
    have hx := h x (List.mem_cons_self ..)
    rw [idsL, idsI_eq, hx.1, hx.2, idsL_flat (fun y hy => h y (List.mem_cons_of_mem _ hy))]
    simp [idsL]
theorem adds_id {d : DocD} {c : ChorD} (h : DocI d c) (i : Nat) (hi : i < c.items.length) (t : ByteArray) :
    (t ∈ idsD d → t ≠ c.items[i].id → (addsF [] (idsD ⟨gmsgsF, [chorId c i hi t]⟩)).1 = 7) ∧ ((t ∉ idsD d ∨ t = c.items[i].id) → isName t = true → (addsF [] (idsD ⟨gmsgsF, [chorId c i hi t]⟩)).1 = 0) ∧ (isName t = false → (addsF [] (idsD ⟨gmsgsF, [chorId c i hi t]⟩)).1 = 8) := by
  have e1 : idsL c.items = c.items.map (·.id) := idsL_plain h.plain
  have hpl : ∀ x ∈ c.items.set i (withId c.items[i] t), x.items = [] ∧ x.seqs = [] := fun x hx => by
    rcases List.mem_or_eq_of_mem_set hx with hx | hx
    · exact ⟨(h.plain x hx).items, (h.plain x hx).seqs⟩
    · have hp := h.plain c.items[i] (List.getElem_mem hi)
      rw [hx]
      exact ⟨hp.items, hp.seqs⟩
  have e2 : idsL (c.items.set i (withId c.items[i] t)) = (c.items.set i (withId c.items[i] t)).map (·.id) := idsL_flat hpl
  have s1 : c.items.map (·.id) = (c.items.take i).map (·.id) ++ c.items[i].id :: (c.items.drop (i + 1)).map (·.id) := by
    conv => lhs; rw [← List.take_append_drop i c.items, List.drop_eq_getElem_cons hi]
    rw [List.map_append, List.map_cons]
  have s2 : (c.items.set i (withId c.items[i] t)).map (·.id) = (c.items.take i).map (·.id) ++ t :: (c.items.drop (i + 1)).map (·.id) := by
    rw [List.set_eq_take_append_cons_drop, if_pos hi, List.map_append, List.map_cons]
    rfl
  obtain ⟨pre, hpre⟩ : ∃ l, l = gmsgsF.map (·.id) ++ (c.id :: (c.parts.map (·.id) ++ (c.flows.map (·.id) ++ (c.items.take i).map (·.id)))) := ⟨_, rfl⟩
  obtain ⟨post, hpost⟩ : ∃ l, l = (c.items.drop (i + 1)).map (·.id) ++ c.seqs.map (·.id) := ⟨_, rfl⟩
  have f1 : idsD d = pre ++ c.items[i].id :: post := by
    rw [h.eq, hpre, hpost]
    unfold idsD idsCs
    rw [List.flatMap_cons, List.flatMap_nil, List.append_nil]
    unfold idsC
    rw [e1, s1]
    simp only [List.append_assoc, List.cons_append]
  have f2 : idsD ⟨gmsgsF, [chorId c i hi t]⟩ = pre ++ t :: post := by
    rw [hpre, hpost]
    unfold idsD idsCs
    rw [List.flatMap_cons, List.flatMap_nil, List.append_nil]
    unfold idsC chorId
    simp only
    rw [e2, s2]
    simp only [List.append_assoc, List.cons_append]
  have hd := h.nodup
  have hn : ∀ a ∈ idsD d, isName a = true := fun a ha => (h.names a ha).1
  rw [f1] at hd hn ⊢
  rw [f2]
  exact adds_one t hd hn
end Go.Proofs.Ytljmghaplnkohaa
namespace Go.Proofs.Ytljmghaplnkohaa
open Go.RowKit

theorem part_task : ∀ (d : Nat) (m : MkD) (src : ByteArray), ∃ y ∈ (gpartF d m src).2.items, y.kind = 3
  | 0, m, src => by
    rw [gpartF_leaf (.inl rfl)]
    unfold gleafF gseqF gtaskF
    exact ⟨gtaskI _ _, List.mem_append_right _ (List.mem_singleton.2 rfl), rfl⟩
  | d + 1, m, src => by
    by_cases h1 : pickF m.p m.at_ % 8 < 3 ∨ 9 < m.items.length
    · rw [gpartF_leaf (.inr h1)]
      unfold gleafF gseqF gtaskF
      exact ⟨gtaskI _ _, List.mem_append_right _ (List.mem_singleton.2 rfl), rfl⟩
    · by_cases h5 : pickF m.p m.at_ % 8 < 5
      · rw [gpartF_seq h1 h5]
        exact part_task d _ _
      · rw [gpartF_both h1 h5]
        dsimp only
        obtain ⟨y, hy, h3⟩ := part_task d (gpartF d (gopenF (gnextF m) src (pickF m.p m.at_ % 8)) (gnameF (gnextF m) chG)).2 (gnameF (gnextF m) chG)
        refine ⟨y, ?_, h3⟩
        unfold gcloseF
        dsimp only
        split
        · exact List.mem_append_left _ hy
        · exact List.mem_append_left _ hy
theorem level_task (m : MkD) (deep : Nat) : ∃ y ∈ (glevelF m deep).items, y.kind = 3 := by
  rw [glevel_eq]
  obtain ⟨y, hy, h3⟩ := part_task deep (gstartF m) (gnameF m chB_)
  exact ⟨y, List.mem_append_left _ hy, h3⟩
theorem map_set_id {α : Type} (f : α → ByteArray) {l : List α} {k : Nat} (hk : k < l.length) {y : α} (h : f y = f l[k]) : (l.set k y).map f = l.map f := by
  conv => rhs; rw [← List.take_append_drop k l, List.drop_eq_getElem_cons hk]
  rw [List.set_eq_take_append_cons_drop, if_pos hk, List.map_append, List.map_append, List.map_cons, List.map_cons, h]
def setFirst (y : ItemD) (a : ByteArray) : ItemD := ⟨y.kind, y.id, a, y.parts, y.flows, y.loop, y.called, y.maps, y.items, y.seqs⟩
def setParts (y : ItemD) (a : List ByteArray) : ItemD := ⟨y.kind, y.id, y.first, a, y.flows, y.loop, y.called, y.maps, y.items, y.seqs⟩
def setFlows (y : ItemD) (a : List ByteArray) : ItemD := ⟨y.kind, y.id, y.first, y.parts, a, y.loop, y.called, y.maps, y.items, y.seqs⟩
def setCalled (y : ItemD) (a : ByteArray) : ItemD := ⟨y.kind, y.id, y.first, y.parts, y.flows, y.loop, a, y.maps, y.items, y.seqs⟩
def setMaps (y : ItemD) (a : List MapD) : ItemD := ⟨y.kind, y.id, y.first, y.parts, y.flows, y.loop, y.called, a, y.items, y.seqs⟩
end Go.Proofs.Ytljmghaplnkohaa
