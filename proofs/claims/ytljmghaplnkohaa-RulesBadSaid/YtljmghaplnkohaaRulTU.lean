/- Plain law: documents of one choreography that break a rule, Plain law: a gateway of events that is wrong; what cannot be come to, joined. -/
import Derived.Test.YtljmghaplnkohaaRulLaw
import Derived.Test.YtljmghaplnkohaaIdsYZ
namespace Go.Proofs.Ytljmghaplnkohaa
open Go.RowKit

def zB (b : UInt8) : ByteArray := ⟨#[122, b]⟩
def isZ (a : ByteArray) : Prop := a.size = 2 ∧ a.data.toList.headD 0 = 122
/-- What RulesBad asks of a document of one choreography. -/
structure DocW (d : DocD) (c : ChorD) (x0 e : ItemD) (rest init : List ItemD) : Prop where
  doc : DocI d c
  lev : ∀ d' c', c'.flows = c.flows → LevelW d' c' c.items c.seqs
  head : c.items = x0 :: rest
  k0 : x0.kind = 1
  last : c.items = init ++ [e]
  ke : e.kind = 2
  noZ : ∀ a ∈ idsD d, ¬ isZ a
  nI : (c.items.map (·.id)).Nodup
  nF : (c.flows.map (·.id)).Nodup
  flows : ∀ f ∈ c.flows, (∃ x ∈ c.parts, x.id = f.src) ∧ (∃ x ∈ c.parts, x.id = f.dst) ∧ ∃ x ∈ gmsgsF, x.id = f.msg
  tasks : ∀ x ∈ c.items, x.kind = 3 → TaskR c.parts c.flows x ∧ ∃ a b f, TaskS c.flows x a b f
  seqs : ∀ q ∈ c.seqs, (∃ x ∈ c.items, x.id = q.src) ∧ ∃ x ∈ c.items, x.id = q.dst
  task : ∃ y ∈ c.items, y.kind = 3
  three : 3 ≤ c.items.length
  lens : c.items.length ≤ 110 ∧ c.flows.length ≤ 250 ∧ 0 < c.seqs.length ∧ c.seqs.length ≤ 200 ∧ 0 < c.flows.length
theorem doc_w (p : List Int) (hp : p.length ≤ maxLen) : ∃ d c x0 e rest init, d = gdocF p ∧ c = gchorF p ⟨#[99]⟩ ⟨#[]⟩ ∧ DocW d c x0 e rest init := by
  obtain ⟨c1, hD⟩ := doc_i p hp
  have hc1 : c1 = gchorF p ⟨#[99]⟩ ⟨#[]⟩ := by
    have := hD.eq
    unfold gdocF at this
    injection this with _ h
    injection h with h _
    exact h.symm
  subst hc1
  have hf := gchor_facts p hp ⟨#[99]⟩ ⟨#[]⟩ (by decide)
  obtain ⟨k, n, pr⟩ := key_make p ⟨#[]⟩ low_nil
  have pl := plain_chor p ⟨#[]⟩ (by decide)
  have rm := ref_make p ⟨#[]⟩
  have hlv : ∀ d' c', c'.flows = (gmakeF p ⟨#[]⟩).flows → LevelW d' c' (gmakeF p ⟨#[]⟩).items (gmakeF p ⟨#[]⟩).seqs := fun d' c' hfl => by
    refine plain_levelW (gbeginF p (2 + pickF p 0 % 16 % 3) ⟨#[]⟩) 3 rfl rfl (by have : (gmakeF p ⟨#[]⟩).n ≤ 109 := n; exact Nat.le_trans this (by omega)) (fun x hx => good_plain (pl.items x hx) (fun h3 => ?_) (by rw [hfl]; exact key_flows k))
    obtain ⟨a, b, f, ht⟩ := make_tasks p ⟨#[]⟩ x hx h3
    exact ⟨a, b, f, by rw [hfl]; exact ht⟩
  obtain ⟨m0, hm0⟩ : ∃ m, m = gbeginF p (2 + pickF p 0 % 16 % 3) ⟨#[]⟩ := ⟨_, rfl⟩
  have hml : gmakeF p ⟨#[]⟩ = glevelF m0 3 := by rw [hm0]; rfl
  have hbn := level_n m0 3
  rw [← hml] at hbn
  obtain ⟨mid, hb, _⟩ := body_graph m0 3 (by rw [hm0]; rfl) (by rw [hm0]; rfl) (by omega)
  have li := level_items m0 3
  rw [← hml] at li
  have hmid : 0 < mid.length := by
    obtain ⟨x, hx, _⟩ := hb.ht
    exact List.length_pos_of_mem hx
  have hfl : (gmakeF p ⟨#[]⟩).flows ≠ [] := level_flow _ 3
  refine ⟨_, _, gitem0 1 (gnameF m0 chB_), lastE m0 3, mid ++ [lastE m0 3], (gbodyF m0 3).2.items, rfl, rfl, hD, hlv, ?_, rfl, li, rfl, ?_, key_items k, key_flows k, rm.flows, fun x hx h3 => ⟨rm.tasks x hx h3, make_tasks p ⟨#[]⟩ x hx h3⟩, rm.seqs, level_task _ 3, ?_, ?_⟩
  · show (gmakeF p ⟨#[]⟩).items = _
    rw [li, hb.eq]; rfl
  · intro a ha
    have hids : idsD (gdocF p) = [⟨#[109, 97]⟩, ⟨#[109, 98]⟩, ⟨#[109, 99]⟩, ⟨#[109, 100]⟩] ++ ((⟨#[99]⟩ : ByteArray) :: ((gmakeF p ⟨#[]⟩).parts.map (·.id) ++ ((gmakeF p ⟨#[]⟩).flows.map (·.id) ++ ((gmakeF p ⟨#[]⟩).items.map (·.id) ++ (gmakeF p ⟨#[]⟩).seqs.map (·.id))))) := by
      unfold idsD idsCs gdocF
      rw [List.flatMap_cons, List.flatMap_nil, List.append_nil]
      unfold idsC gchorF
      simp only
      rw [idsL_plain pl.items]
      rfl
    have hparts : (gmakeF p ⟨#[]⟩).parts.map (·.id) = (List.range (2 + pickF p 0 % 16 % 3)).map gpn := by
      have hg := grow_levelI (gbeginF p (2 + pickF p 0 % 16 % 3) ⟨#[]⟩) 3
      have : (gmakeF p ⟨#[]⟩).parts = (gbeginF p (2 + pickF p 0 % 16 % 3) ⟨#[]⟩).parts := hg.parts
      rw [this, gparts_begin]
      exact List.map_congr_left (fun i _ => ByteArray.empty_append)
    have hs : ∀ s : ByteArray, s.size = (gmakeF p ⟨#[]⟩).pre.size + 3 → ¬ isZ s := fun s h e => by
      rw [pr] at h
      have h3 : s.size = 3 := h
      have := e.1
      omega
    rw [hids] at ha
    simp only [List.mem_append, List.mem_cons, List.not_mem_nil, or_false, List.mem_map] at ha
    rcases ha with (rfl | rfl | rfl | rfl) | (rfl | ⟨x, hx, rfl⟩ | ⟨x, hx, rfl⟩ | ⟨x, hx, rfl⟩ | ⟨x, hx, rfl⟩)
    · exact fun e => absurd e.2 (by decide)
    · exact fun e => absurd e.2 (by decide)
    · exact fun e => absurd e.2 (by decide)
    · exact fun e => absurd e.2 (by decide)
    · exact fun e => absurd e.2 (by decide)
    · have h1 : x.id ∈ (gmakeF p ⟨#[]⟩).parts.map (·.id) := List.mem_map.2 ⟨x, hx, rfl⟩
      rw [hparts] at h1
      obtain ⟨i, _, e⟩ := List.mem_map.1 h1
      rw [← e]
      exact fun e => absurd (show (112 : UInt8) = 122 from e.2) (by decide)
    · exact hs _ (k.flows x hx).2.1
    · exact hs _ (k.items x hx).2.1
    · exact hs _ (k.seqs x hx).2.1
  · show 3 ≤ (gmakeF p ⟨#[]⟩).items.length
    rw [li, hb.eq]; simp; omega
  · have a1 : (gmakeF p ⟨#[]⟩).flows.length ≤ 108 := hf.2.2.1
    have a2 : (gmakeF p ⟨#[]⟩).items.length ≤ 108 := hf.2.2.2.1
    have a3 : (gmakeF p ⟨#[]⟩).seqs.length ≤ 108 := hf.2.2.2.2.1
    have a4 : 1 ≤ (gmakeF p ⟨#[]⟩).seqs.length := hf.2.2.2.2.2
    have a5 : 0 < (gmakeF p ⟨#[]⟩).flows.length := List.length_pos_iff.2 hfl
    exact ⟨by show (gmakeF p ⟨#[]⟩).items.length ≤ 110; omega, by show (gmakeF p ⟨#[]⟩).flows.length ≤ 250; omega, by show 0 < (gmakeF p ⟨#[]⟩).seqs.length; omega, by show (gmakeF p ⟨#[]⟩).seqs.length ≤ 200; omega, a5⟩
/-- A changed choreography whose ids and references are in order. -/
structure ChgOk (c c' : ChorD) (X Y : List ByteArray) : Prop where
  cid : c'.id = c.id
  parts : c'.parts = c.parts
  flows : c'.flows = c.flows
  items : c'.items.map (·.id) = c.items.map (·.id) ++ X
  seqs : c'.seqs.map (·.id) = c.seqs.map (·.id) ++ Y
  flat : ∀ x ∈ c'.items, x.items = [] ∧ x.seqs = [] ∧ x.kind ≠ 7 ∧ x.kind ≠ 8 ∧ (x.kind = 3 → TaskR c.parts c.flows x)
  ends : ∀ q ∈ c'.seqs, (∃ x ∈ c'.items, x.id = q.src) ∧ ∃ x ∈ c'.items, x.id = q.dst
  nod : (X ++ Y).Nodup
  zs : ∀ a ∈ X ++ Y, isZ a ∧ isName a = true
  len : (X ++ Y).length ≤ 10
theorem chg_check {d : DocD} {c c' : ChorD} {x0 e : ItemD} {rest init : List ItemD} {X Y : List ByteArray} (h : DocW d c x0 e rest init) (k : ChgOk c c' X Y) : checkF ⟨gmsgsF, [c']⟩ = 0 ∧ IdsFit [] (idsD ⟨gmsgsF, [c']⟩) := by
  have e1 : idsL c'.items = c.items.map (·.id) ++ X := by rw [idsL_flat (fun x hx => ⟨(k.flat x hx).1, (k.flat x hx).2.1⟩), k.items]
  have e2 : idsL c.items = c.items.map (·.id) := idsL_plain h.doc.plain
  obtain ⟨A, hA⟩ : ∃ A, A = gmsgsF.map (·.id) ++ (c.id :: (c.parts.map (·.id) ++ c.flows.map (·.id))) := ⟨_, rfl⟩
  have f1 : idsD d = A ++ (c.items.map (·.id) ++ c.seqs.map (·.id)) := by
    rw [h.doc.eq, hA]
    unfold idsD idsCs
    rw [List.flatMap_cons, List.flatMap_nil, List.append_nil]
    unfold idsC
    rw [e2]
    simp only [List.append_assoc, List.cons_append]
  have f2 : idsD ⟨gmsgsF, [c']⟩ = A ++ ((c.items.map (·.id) ++ X) ++ (c.seqs.map (·.id) ++ Y)) := by
    rw [hA]
    unfold idsD idsCs
    rw [List.flatMap_cons, List.flatMap_nil, List.append_nil]
    unfold idsC
    rw [e1, k.cid, k.parts, k.flows, k.seqs]
    simp only [List.append_assoc, List.cons_append]
  have hd := h.doc.nodup
  have hn := h.doc.names
  have hz := h.noZ
  have hl := h.doc.len
  rw [f1] at hd hn hz hl
  have hperm : (A ++ ((c.items.map (·.id) ++ X) ++ (c.seqs.map (·.id) ++ Y))).Perm ((A ++ (c.items.map (·.id) ++ c.seqs.map (·.id))) ++ (X ++ Y)) := by
    rw [List.append_assoc A]
    refine List.Perm.append_left A ?_
    rw [List.append_assoc, List.append_assoc]
    refine List.Perm.append_left _ ?_
    rw [← List.append_assoc, ← List.append_assoc]
    exact List.Perm.append_right _ List.perm_append_comm
  have hnd : (idsD ⟨gmsgsF, [c']⟩).Nodup := by
    rw [f2]
    refine hperm.nodup_iff.2 (List.nodup_append.2 ⟨hd, k.nod, fun a ha b hb e => ?_⟩)
    exact hz a ha (e ▸ (k.zs b hb).1)
  have hnm : ∀ a ∈ idsD ⟨gmsgsF, [c']⟩, isName a = true ∧ a.size ≤ 60 := fun a ha => by
    rw [f2] at ha
    rcases List.mem_append.1 (hperm.mem_iff.1 ha) with ha | ha
    · exact hn a ha
    · exact ⟨(k.zs a ha).2, by have := (k.zs a ha).1.1; omega⟩
  have hadd : addsF [] (idsD ⟨gmsgsF, [c']⟩) = (0, idsD ⟨gmsgsF, [c']⟩) := adds_all [] _ (fun a ha => (hnm a ha).1) hnd
  have href : refsF ⟨gmsgsF, [c']⟩ = true := by
    unfold refsF
    rw [List.all_cons, List.all_nil, Bool.and_true]
    unfold okC
    rw [Bool.and_eq_true, Bool.and_eq_true]
    refine ⟨?_, ?_, okSeqs_of k.ends⟩
    · rw [flows_of (fun f hf => by rw [k.parts]; exact h.flows f (k.flows ▸ hf))]; rfl
    · rw [okL_all]
      intro y hy
      obtain ⟨_, _, h7, h8, h3⟩ := k.flat y hy
      rw [okI_eq]
      by_cases k3 : y.kind = 3
      · rw [if_pos k3]; exact okTask_of (by rw [k.parts, k.flows]; exact h3 k3)
      · rw [if_neg k3, if_neg h8, if_neg h7]
  refine ⟨?_, ⟨fun a ha => by have := (hnm a ha).2; omega, ?_⟩⟩
  · unfold checkF
    rw [hadd, href]
    rfl
  · have h1 := congrArg List.length f2
    have h2 := k.len
    simp only [List.length_append] at h1 h2 hl
    show 0 + (idsD ⟨gmsgsF, [c']⟩).length ≤ 1000000
    omega
/-- What is told of a changed document. -/
structure BadR (c' : ChorD) (r : Int) (id : ByteArray) : Prop where
  ck : ckF ⟨gmsgsF, [c']⟩ = (r, id, 9)
  ch : chorF ⟨gmsgsF, [c']⟩ c' = (r, id)
  fit : IdsFit [] (idsD ⟨gmsgsF, [c']⟩)
  lens : c'.items.length ≤ 1000 ∧ c'.seqs.length ≤ 1000
  no7 : ∀ x ∈ c'.items, x.kind ≠ 7
theorem bad_of {d : DocD} {c c' : ChorD} {x0 e : ItemD} {rest init : List ItemD} {X Y : List ByteArray} (h : DocW d c x0 e rest init) (k : ChgOk c c' X Y) {r : Int} {id : ByteArray} (hr : r ≠ 0) (hl : levelF ⟨gmsgsF, [c']⟩ c' c'.items c'.seqs false = (r, id)) : BadR c' r id := by
  obtain ⟨h1, h2⟩ := chg_check h k
  have hch : chorF ⟨gmsgsF, [c']⟩ c' = (r, id) := hl
  have hcs : chorsF ⟨gmsgsF, [c']⟩ [c'] = (r, id) := by
    rw [chorsF, hch, if_pos hr]
  refine ⟨?_, hch, h2, ?_, fun x hx => (k.flat x hx).2.2.1⟩
  · unfold ckF
    rw [h1, if_neg (fun e => e rfl)]
    show (if (chorsF ⟨gmsgsF, [c']⟩ [c']).1 ≠ 0 then _ else _) = _
    rw [hcs, if_pos hr]
  · have a1 := congrArg List.length k.items
    have a2 := congrArg List.length k.seqs
    have a3 := h.lens
    have a4 := k.len
    simp only [List.length_append, List.length_map] at a1 a2 a4
    omega
theorem seqBad_last {q : SeqD} : ∀ (pre r : List SeqD), (∀ z ∈ r, z.src ≠ z.dst) → ((pre ++ r).map fun z => (z.src, z.dst)).Nodup → (q.src = q.dst ∨ ∃ z ∈ pre ++ r, z.src = q.src ∧ z.dst = q.dst) → seqBad pre (r ++ [q]) = (7, q.id)
  | pre, [], _, _, hq => by
    rw [List.nil_append, seqBad, if_pos]
    rcases hq with hq | ⟨z, hz, e1, e2⟩
    · rw [(eqS_iff _ _).2 hq]; rfl
    · rw [List.append_nil] at hz
      rw [List.any_eq_true.2 ⟨z, hz, by unfold sameQ; rw [(eqS_iff _ _).2 e1, (eqS_iff _ _).2 e2]; rfl⟩, Bool.or_true]
  | pre, z :: r, h, hn, hq => by
    rw [List.cons_append, seqBad, if_neg]
    · exact seqBad_last (pre ++ [z]) r (fun y hy => h y (List.mem_cons_of_mem _ hy)) (by simpa using hn) (by simpa using hq)
    · rw [eqS_ne (h z (List.mem_cons_self ..)), Bool.false_or]
      intro e
      obtain ⟨y, hy, he⟩ := List.any_eq_true.1 e
      unfold sameQ at he
      rw [Bool.and_eq_true, eqS_iff, eqS_iff] at he
      rw [List.map_append, List.map_cons] at hn
      exact (List.nodup_append.1 hn).2.2 (y.src, y.dst) (List.mem_map.2 ⟨y, hy, rfl⟩) (z.src, z.dst) (List.mem_cons_self ..) (by rw [he.1, he.2])
theorem rulL_at {d : DocD} {c : ChorD} {L : List ItemD} {S : List SeqD} {x : ItemD} {r : Int} {id : ByteArray} (hr : r ≠ 0) (hx : rulI d c L S x = (r, id)) (post : List ItemD) : ∀ {pre : List ItemD}, (∀ y ∈ pre, rulI d c L S y = (0, ⟨#[]⟩)) → rulL d c L S (pre ++ x :: post) = (r, id)
  | [], _ => by rw [List.nil_append, rulL, hx, if_pos hr]
  | y :: pre, h => by
    rw [List.cons_append, rulL, h y (List.mem_cons_self ..), if_neg (fun e => e rfl)]
    exact rulL_at hr hx post (fun z hz => h z (List.mem_cons_of_mem _ hz))
theorem level_at {d : DocD} {c : ChorD} {l : List ItemD} {s : List SeqD} {r : Int} {id : ByteArray} (hr : r ≠ 0) (k1 : kindN l 1 = 1) (k2 : kindN l 2 = 1) (hself : ∀ q ∈ s, q.src ≠ q.dst) (hpair : (s.map fun q => (q.src, q.dst)).Nodup) (h : rulL d c l s l = (r, id)) : levelF d c l s false = (r, id) := by
  rw [levelF_on k1 (by unfold endB; rw [k2]; rfl), seqBad_ok [] s hself (by simpa using hpair), if_neg (fun e => e rfl), h, if_pos hr]
theorem rulI_deg {d : DocD} {c : ChorD} {L : List ItemD} {S : List SeqD} {x : ItemD} {r : Int} (h : degF S x.kind x.id = r) (hr : r ≠ 0) : rulI d c L S x = (r, x.id) := by
  have hi : itemF d c L S x = r := by unfold itemF; rw [h, if_pos hr]
  rw [rulI_eq, hi, if_pos hr]
theorem rulI_task {d : DocD} {c : ChorD} {L : List ItemD} {S : List SeqD} {x : ItemD} (h : degF S x.kind x.id = 0) (h3 : x.kind = 3) (ht : taskF c x = false) : rulI d c L S x = (6, x.id) := by
  have hi : itemF d c L S x = 6 := by
    unfold itemF
    rw [if_neg (fun e => e h), h3, ht]
    rfl
  rw [rulI_eq, hi, if_pos (by decide)]
section
variable {d : DocD} {c : ChorD} {x0 e : ItemD} {rest init : List ItemD}
def withI (c : ChorD) (l : List ItemD) (s : List SeqD) : ChorD := ⟨c.id, c.parts, c.flows, l, s⟩
def setKind (y : ItemD) (k : Int) : ItemD := ⟨k, y.id, y.first, y.parts, y.flows, y.loop, y.called, y.maps, y.items, y.seqs⟩
def newI (k : Int) (b : UInt8) : ItemD := ⟨k, zB b, ⟨#[]⟩, [], [], false, ⟨#[]⟩, [], [], []⟩
theorem zB_z (b : UInt8) : isZ (zB b) := ⟨rfl, rfl⟩
theorem zB_name : ∀ b ∈ [(122 : UInt8), 121, 120, 119, 118], isName (zB b) = true := fun b hb => by
  refine isName_lit (l := [122, b]) (by simp) (by simp) (fun z hz => ?_)
  simp only [List.mem_cons, List.not_mem_nil, or_false] at hb hz
  rcases hz with rfl | rfl
  · decide
  · rcases hb with rfl | rfl | rfl | rfl | rfl <;> decide
theorem DocW.flatI (h : DocW d c x0 e rest init) : ∀ x ∈ c.items, x.items = [] ∧ x.seqs = [] ∧ x.kind ≠ 7 ∧ x.kind ≠ 8 ∧ (x.kind = 3 → TaskR c.parts c.flows x) := fun x hx => by
  have hp := h.doc.plain x hx
  have := hp.kind
  exact ⟨hp.items, hp.seqs, by omega, by omega, fun h3 => (h.tasks x hx h3).1⟩
theorem DocW.itemZ (h : DocW d c x0 e rest init) (b : UInt8) : ∀ x ∈ c.items, x.id ≠ zB b := fun x hx ee => by
  have hm : x.id ∈ idsD d := by
    rw [h.doc.eq]
    unfold idsD idsCs
    rw [List.flatMap_cons, List.flatMap_nil, List.append_nil]
    unfold idsC
    rw [idsL_plain h.doc.plain]
    simp only [List.mem_append, List.mem_cons, List.mem_map]
    exact .inr (.inr (.inr (.inr (.inl ⟨x, hx, rfl⟩))))
  exact h.noZ _ hm (ee ▸ zB_z b)
theorem DocW.seqZ (h : DocW d c x0 e rest init) (b : UInt8) : ∀ q ∈ c.seqs, q.src ≠ zB b ∧ q.dst ≠ zB b := fun q hq => by
  obtain ⟨⟨x, hx, e1⟩, ⟨y, hy, e2⟩⟩ := h.seqs q hq
  exact ⟨fun ee => h.itemZ b x hx (e1.trans ee), fun ee => h.itemZ b y hy (e2.trans ee)⟩
/-- Seqs and items added. -/
theorem DocW.chg (h : DocW d c x0 e rest init) (XI : List ItemD) (YS : List SeqD) (hXk : ∀ x ∈ XI, x.items = [] ∧ x.seqs = [] ∧ x.kind ≠ 7 ∧ x.kind ≠ 8 ∧ x.kind ≠ 3) (hXz : ∀ x ∈ XI, isZ x.id ∧ isName x.id = true) (hYz : ∀ q ∈ YS, isZ q.id ∧ isName q.id = true)
    (hn : (XI.map (·.id) ++ YS.map (·.id)).Nodup) (hl : (XI.map (·.id) ++ YS.map (·.id)).length ≤ 10) (he : ∀ q ∈ YS, (∃ x ∈ c.items ++ XI, x.id = q.src) ∧ ∃ x ∈ c.items ++ XI, x.id = q.dst) :
    ChgOk c (withI c (c.items ++ XI) (c.seqs ++ YS)) (XI.map (·.id)) (YS.map (·.id)) := by
  refine ⟨rfl, rfl, rfl, by show (c.items ++ XI).map _ = _; rw [List.map_append], by show (c.seqs ++ YS).map _ = _; rw [List.map_append], fun x hx => ?_, fun q hq => ?_, hn, fun a ha => ?_, hl⟩
  · have hx' : x ∈ c.items ++ XI := hx
    rcases List.mem_append.1 hx' with hx | hx
    · exact h.flatI x hx
    · obtain ⟨a1, a2, a3, a4, a5⟩ := hXk x hx
      exact ⟨a1, a2, a3, a4, fun k3 => absurd k3 a5⟩
  · have hq' : q ∈ c.seqs ++ YS := hq
    rcases List.mem_append.1 hq' with hq | hq
    · obtain ⟨⟨x, hx, e1⟩, ⟨y, hy, e2⟩⟩ := h.seqs q hq
      exact ⟨⟨x, List.mem_append_left _ hx, e1⟩, ⟨y, List.mem_append_left _ hy, e2⟩⟩
    · exact he q hq
  · rcases List.mem_append.1 ha with ha | ha
    · obtain ⟨x, hx, rfl⟩ := List.mem_map.1 ha; exact hXz x hx
    · obtain ⟨q, hq, rfl⟩ := List.mem_map.1 ha; exact hYz q hq
/-- One item is another one of the same id. -/
theorem DocW.chgSet (h : DocW d c x0 e rest init) {k : Nat} (hk : k < c.items.length) (y : ItemD) (hid : y.id = c.items[k].id) (hy : y.items = [] ∧ y.seqs = [] ∧ y.kind ≠ 7 ∧ y.kind ≠ 8 ∧ (y.kind = 3 → TaskR c.parts c.flows y)) : ChgOk c (withI c (c.items.set k y) c.seqs) [] [] := by
  have hm : (c.items.set k y).map (·.id) = c.items.map (·.id) := map_set_id (fun z : ItemD => z.id) hk hid
  refine ⟨rfl, rfl, rfl, by show (c.items.set k y).map _ = _; rw [hm, List.append_nil], (List.append_nil _).symm, fun x hx => ?_, fun q hq => ?_, List.nodup_nil, fun a ha => (by cases ha), by decide⟩
  · rcases List.mem_or_eq_of_mem_set hx with hx | hx
    · exact h.flatI x hx
    · rw [hx]; exact hy
  · have fnd : ∀ a, (∃ x ∈ c.items, x.id = a) → ∃ x ∈ c.items.set k y, x.id = a := fun a ⟨x, hx, e1⟩ => by
      have : a ∈ (c.items.set k y).map (·.id) := by rw [hm]; exact List.mem_map.2 ⟨x, hx, e1⟩
      obtain ⟨z, hz, e2⟩ := List.mem_map.1 this
      exact ⟨z, hz, e2⟩
    exact ⟨fnd _ (h.seqs q hq).1, fnd _ (h.seqs q hq).2⟩
theorem kind_app (l r : List ItemD) (k : Int) : kindN (l ++ r) k = kindN l k + kindN r k := by rw [kindN_eq, kindN_eq, kindN_eq, List.filter_append, List.length_append]
theorem kind_cons (x : ItemD) (r : List ItemD) (k : Int) : kindN (x :: r) k = (if x.kind = k then 1 else 0) + kindN r k := by
  rw [kindN_eq, kindN_eq, List.filter_cons]
  by_cases h : x.kind = k
  · rw [if_pos (by rw [h]; simp), if_pos h, List.length_cons]; omega
  · rw [if_neg (by simpa using h), if_neg h]; omega
theorem DocW.ks (h : DocW d c x0 e rest init) : kindN c.items 1 = 1 ∧ kindN c.items 2 = 1 := by
  have hl := h.lev d c rfl
  exact ⟨hl.k1, hl.k2⟩
theorem bad0 (h : DocW d c x0 e rest init) : BadR (withI c (c.items.set 0 (setKind x0 4)) c.seqs) 1 ⟨#[]⟩ := by
  have hk : 0 < c.items.length := by have := h.three; omega
  have h00 : c.items[0] = x0 := by simp [h.head]
  have f0 := h.flatI x0 (by rw [h.head]; exact List.mem_cons_self ..)
  refine bad_of h (h.chgSet hk (setKind x0 4) (by rw [h00]; rfl) ⟨f0.1, f0.2.1, by show (4 : Int) ≠ 7; decide, by show (4 : Int) ≠ 8; decide, fun k3 => absurd (show (4 : Int) = 3 from k3) (by decide)⟩) (by decide) (levelF_start ?_)
  have h1 := h.ks.1
  show kindN (c.items.set 0 (setKind x0 4)) 1 ≠ 1
  rw [h.head, kind_cons, if_pos h.k0] at h1
  rw [h.head, List.set_cons_zero, kind_cons, if_neg (show ¬ (setKind x0 4).kind = 1 from by show ¬ (4 : Int) = 1; decide)]
  omega
theorem bad1 (h : DocW d c x0 e rest init) : BadR (withI c (c.items ++ [newI 1 122]) c.seqs) 1 ⟨#[]⟩ := by
  have k := h.chg [newI 1 122] [] (fun x hx => by rw [List.mem_singleton.1 hx]; exact ⟨rfl, rfl, by show (1 : Int) ≠ 7; decide, by show (1 : Int) ≠ 8; decide, by show (1 : Int) ≠ 3; decide⟩) (fun x hx => by rw [List.mem_singleton.1 hx]; exact ⟨zB_z _, zB_name _ (by simp)⟩) (fun q hq => by cases hq) (by simp) (by simp) (fun q hq => by cases hq)
  rw [List.append_nil] at k
  refine bad_of h k (by decide) (levelF_start ?_)
  have h1 := h.ks.1
  show kindN (c.items ++ [newI 1 122]) 1 ≠ 1
  rw [kind_app, kind_cons, if_pos (show (newI 1 122).kind = 1 from rfl)]
  omega
theorem DocW.lastAt (h : DocW d c x0 e rest init) : ∃ hk : c.items.length - 1 < c.items.length, c.items[c.items.length - 1] = e := by
  have h3 := h.three
  refine ⟨by omega, ?_⟩
  have hl : init.length = c.items.length - 1 := by rw [h.last]; simp
  have hk : init.length < c.items.length := by omega
  have : c.items[init.length] = e := by simp only [h.last]; rw [List.getElem_append_right (Nat.le_refl _)]; simp
  rw [← this]
  simp only [hl]
theorem bad2 (h : DocW d c x0 e rest init) : BadR (withI c (c.items.set (c.items.length - 1) (setKind e 4)) c.seqs) 2 ⟨#[]⟩ := by
  obtain ⟨hk, he⟩ := h.lastAt
  have f0 := h.flatI e (by rw [h.last]; simp)
  have hl : init.length = c.items.length - 1 := by rw [h.last]; simp
  have hset : c.items.set (c.items.length - 1) (setKind e 4) = init ++ [setKind e 4] := by
    rw [← hl]
    conv => lhs; rw [h.last]
    rw [List.set_append_right _ _ (Nat.le_refl _), Nat.sub_self]
    rfl
  refine bad_of h (h.chgSet hk (setKind e 4) (by rw [he]; rfl) ⟨f0.1, f0.2.1, by show (4 : Int) ≠ 7; decide, by show (4 : Int) ≠ 8; decide, fun k3 => absurd (show (4 : Int) = 3 from k3) (by decide)⟩) (by decide) (levelF_end ?_ ?_)
  · have h1 := h.ks.1
    show kindN (c.items.set (c.items.length - 1) (setKind e 4)) 1 = 1
    rw [h.last, kind_app, kind_cons, if_neg (by rw [h.ke]; decide)] at h1
    rw [hset, kind_app, kind_cons, if_neg (show ¬ (setKind e 4).kind = 1 from by show ¬ (4 : Int) = 1; decide)]
    exact h1
  · have h1 := h.ks.2
    unfold endB
    have : kindN (withI c (c.items.set (c.items.length - 1) (setKind e 4)) c.seqs).items 2 = 0 := by
      show kindN (c.items.set (c.items.length - 1) (setKind e 4)) 2 = 0
      rw [h.last, kind_app, kind_cons, if_pos h.ke] at h1
      rw [hset, kind_app, kind_cons, if_neg (show ¬ (setKind e 4).kind = 2 from by show ¬ (4 : Int) = 2; decide)]
      have : kindN [] 2 = 0 := rfl
      omega
    rw [this]; rfl
def newQ (b : UInt8) (x y : ByteArray) : SeqD := ⟨zB b, x, y⟩
/-- One seq more, the same items. -/
theorem DocW.chgQ (h : DocW d c x0 e rest init) (x y : ByteArray) (hx : ∃ z ∈ c.items, z.id = x) (hy : ∃ z ∈ c.items, z.id = y) : ChgOk c (withI c c.items (c.seqs ++ [newQ 122 x y])) [] [zB 122] := by
  have k := h.chg [] [newQ 122 x y] (fun _ hz => by cases hz) (fun _ hz => by cases hz) (fun q hq => by rw [List.mem_singleton.1 hq]; exact ⟨zB_z _, zB_name _ (by simp)⟩) (by simp) (by simp) (fun q hq => by rw [List.mem_singleton.1 hq, List.append_nil]; exact ⟨hx, hy⟩)
  rw [List.append_nil] at k
  exact k
theorem bad_seq (h : DocW d c x0 e rest init) (x y : ByteArray) (hx : ∃ z ∈ c.items, z.id = x) (hy : ∃ z ∈ c.items, z.id = y) (hq : x = y ∨ ∃ z ∈ c.seqs, z.src = x ∧ z.dst = y) : BadR (withI c c.items (c.seqs ++ [newQ 122 x y])) 7 (zB 122) := by
  have hl := h.lev d c rfl
  refine bad_of h (h.chgQ x y hx hy) (by decide) ?_
  have hb : seqBad [] (c.seqs ++ [newQ 122 x y]) = (7, zB 122) := seqBad_last (q := newQ 122 x y) [] c.seqs hl.self (by simpa using hl.pair) (by rcases hq with e1 | ⟨z, hz, e1, e2⟩; exact .inl e1; exact .inr ⟨z, hz, e1, e2⟩)
  show levelF _ _ c.items (c.seqs ++ [newQ 122 x y]) false = _
  rw [levelF_on h.ks.1 (by unfold endB; rw [h.ks.2]; rfl), hb, if_pos (by decide)]
theorem DocW.x0m (h : DocW d c x0 e rest init) : x0 ∈ c.items := by rw [h.head]; exact List.mem_cons_self ..
theorem DocW.em (h : DocW d c x0 e rest init) : e ∈ c.items := by rw [h.last]; simp
theorem pair_snoc {s : List SeqD} {q : SeqD} (hn : (s.map fun z => (z.src, z.dst)).Nodup) (h : ∀ z ∈ s, ¬ (z.src = q.src ∧ z.dst = q.dst)) : ((s ++ [q]).map fun z => (z.src, z.dst)).Nodup := by
  rw [List.map_append]
  refine List.nodup_append.2 ⟨hn, by simp, fun a ha b hb e => ?_⟩
  obtain ⟨z, hz, e1⟩ := List.mem_map.1 ha
  rw [List.map_cons, List.map_nil, List.mem_singleton] at hb
  rw [hb, ← e1] at e
  injection e with e2 e3
  exact h z hz ⟨e2, e3⟩
theorem DocW.in0 (h : DocW d c x0 e rest init) : inN c.seqs x0.id = 0 := by
  have hd := (h.lev d c rfl).deg x0 h.x0m
  unfold degF at hd
  rw [h.k0] at hd
  by_cases h0 : inN c.seqs x0.id = 0
  · exact h0
  · have : (inN c.seqs x0.id == 0) = false := by simpa using h0
    rw [this, if_pos (by decide)] at hd
    exact absurd hd (by decide)
theorem no_in {s : List SeqD} {a : ByteArray} (h : inN s a = 0) : ∀ q ∈ s, q.dst ≠ a := fun q hq e => by
  rw [inN_eq, List.length_eq_zero_iff, List.filter_eq_nil_iff] at h
  exact h q hq ((eqS_iff _ _).2 e)
theorem bad5 (h : DocW d c x0 e rest init) {x : ItemD} (hx : x ∈ c.items) (h3 : x.kind = 3) : BadR (withI c c.items (c.seqs ++ [newQ 122 x.id x0.id])) 3 x0.id := by
  have hl := h.lev d c rfl
  have hne : x.id ≠ x0.id := fun ee => by
    have : x = x0 := nodup_same h.nI hx h.x0m ee
    rw [this, h.k0] at h3; exact absurd h3 (by decide)
  refine bad_of h (h.chgQ x.id x0.id ⟨x, hx, rfl⟩ ⟨x0, h.x0m, rfl⟩) (by decide) ?_
  show levelF _ _ c.items (c.seqs ++ [newQ 122 x.id x0.id]) false = _
  refine level_at (by decide) h.ks.1 h.ks.2 (fun q hq => ?_) (pair_snoc hl.pair (fun z hz ee => no_in h.in0 z hz ee.2)) ?_
  · rcases List.mem_append.1 hq with hq | hq
    · exact hl.self q hq
    · rw [List.mem_singleton.1 hq]; exact hne
  · have hdeg : degF (c.seqs ++ [newQ 122 x.id x0.id]) x0.kind x0.id = 3 := by
      unfold degF
      rw [inN_snoc, h.in0, if_pos (show x0.id = (newQ 122 x.id x0.id).dst from rfl), h.k0]
      rfl
    have := rulL_at (d := ⟨gmsgsF, [withI c c.items (c.seqs ++ [newQ 122 x.id x0.id])]⟩) (c := withI c c.items (c.seqs ++ [newQ 122 x.id x0.id])) (L := c.items) (S := c.seqs ++ [newQ 122 x.id x0.id]) (x := x0) (by decide) (rulI_deg hdeg (by decide)) rest (pre := []) (fun _ hy => by cases hy)
    rw [List.nil_append, ← h.head] at this
    exact this
/-- How many come in and go out, elsewhere. -/
theorem deg_same {s Y : List SeqD} {x : ItemD} (h1 : inN Y x.id = 0) (h2 : outN Y x.id = 0) : degF (s ++ Y) x.kind x.id = degF s x.kind x.id := by
  unfold degF
  rw [inN_app, outN_app, h1, h2, Nat.add_zero, Nat.add_zero]
theorem DocW.eDeg (h : DocW d c x0 e rest init) : 1 ≤ inN c.seqs e.id ∧ outN c.seqs e.id = 0 := by
  have hd := (h.lev d c rfl).deg e h.em
  unfold degF at hd
  rw [h.ke] at hd
  by_cases h0 : inN c.seqs e.id = 0
  · rw [h0, if_pos (by decide)] at hd
    exact absurd hd (by decide)
  · have : (inN c.seqs e.id == 0) = false := by simpa using h0
    rw [this, if_neg (by decide), if_pos rfl] at hd
    by_cases ho : outN c.seqs e.id = 0
    · exact ⟨by omega, ho⟩
    · rw [if_neg ho] at hd; exact absurd hd (by decide)
theorem DocW.goodAll (h : DocW d c x0 e rest init) {d' : DocD} {c' : ChorD} (hf : c'.flows = c.flows) : ∀ x ∈ c.items, GoodI d' c' x := (h.lev d' c' hf).good
theorem zB_inj {a b : UInt8} (h : a ≠ b) : zB a ≠ zB b := fun e => by
  have h1 : (zB a).data.toList = (zB b).data.toList := by rw [e]
  have h2 : [122, a] = [122, b] := h1
  injection h2 with _ h3
  injection h3 with h4
  exact h h4
theorem bad6 (h : DocW d c x0 e rest init) : BadR (withI c (c.items ++ [newI 4 122]) (c.seqs ++ [newQ 121 e.id (zB 122)])) 4 e.id := by
  have hl := h.lev d c rfl
  obtain ⟨e1, e2⟩ := h.eDeg
  have ez := h.itemZ 122 e h.em
  refine bad_of h (h.chg [newI 4 122] [newQ 121 e.id (zB 122)] (fun x hx => by rw [List.mem_singleton.1 hx]; exact ⟨rfl, rfl, by show (4 : Int) ≠ 7; decide, by show (4 : Int) ≠ 8; decide, by show (4 : Int) ≠ 3; decide⟩) (fun x hx => by rw [List.mem_singleton.1 hx]; exact ⟨zB_z _, zB_name _ (by simp)⟩) (fun q hq => by rw [List.mem_singleton.1 hq]; exact ⟨zB_z _, zB_name _ (by simp)⟩)
    (by show [zB 122, zB 121].Nodup; exact List.nodup_cons.2 ⟨by simpa using zB_inj (by decide), by simp⟩) (by simp) (fun q hq => by rw [List.mem_singleton.1 hq]; exact ⟨⟨e, List.mem_append_left _ h.em, rfl⟩, newI 4 122, by simp, rfl⟩)) (by decide) ?_
  show levelF _ _ (c.items ++ [newI 4 122]) (c.seqs ++ [newQ 121 e.id (zB 122)]) false = _
  refine level_at (by decide) ?_ ?_ (fun q hq => ?_) (pair_snoc hl.pair (fun z hz ee => (h.seqZ 122 z hz).2 ee.2)) ?_
  · rw [kind_app, kind_cons, if_neg (show ¬ (newI 4 122).kind = 1 from by show ¬ (4 : Int) = 1; decide), h.ks.1]; rfl
  · rw [kind_app, kind_cons, if_neg (show ¬ (newI 4 122).kind = 2 from by show ¬ (4 : Int) = 2; decide), h.ks.2]; rfl
  · rcases List.mem_append.1 hq with hq | hq
    · exact hl.self q hq
    · rw [List.mem_singleton.1 hq]; exact ez
  · have hsp : c.items ++ [newI 4 122] = init ++ e :: [newI 4 122] := by rw [h.last, List.append_assoc]; rfl
    have hdeg : degF (c.seqs ++ [newQ 121 e.id (zB 122)]) e.kind e.id = 4 := by
      unfold degF
      rw [inN_snoc, outN_snoc, e2, if_neg (show ¬ e.id = (newQ 121 e.id (zB 122)).dst from ez), if_pos (show e.id = (newQ 121 e.id (zB 122)).src from rfl), h.ke]
      have : (inN c.seqs e.id + 0 == 0) = false := by simp; omega
      rw [this]
      rfl
    conv => lhs; arg 5; rw [hsp]
    refine rulL_at (by decide) (rulI_deg hdeg (by decide)) [newI 4 122] (fun y hy => ?_)
    have hyI : y ∈ c.items := by rw [h.last]; exact List.mem_append_left _ hy
    have hne : y.id ≠ e.id := fun ee => by
      have hnn := h.nI
      rw [h.last, List.map_append] at hnn
      exact (List.nodup_append.1 hnn).2.2 y.id (List.mem_map.2 ⟨y, hy, rfl⟩) e.id (by simp) ee
    refine rulI_ok ?_ (h.goodAll (c' := withI c (c.items ++ [newI 4 122]) (c.seqs ++ [newQ 121 e.id (zB 122)])) rfl y hyI)
    rw [deg_same (by rw [in_one, if_neg (show ¬ y.id = (newQ 121 e.id (zB 122)).dst from h.itemZ 122 y hyI)]) (by rw [out_one, if_neg (show ¬ y.id = (newQ 121 e.id (zB 122)).src from hne)])]
    exact hl.deg y hyI
/-- A task that is wrong. -/
theorem bad_task (h : DocW d c x0 e rest init) {k : Nat} (hk : k < c.items.length) (h3 : c.items[k].kind = 3) (y : ItemD) (hid : y.id = c.items[k].id) (hy3 : y.kind = 3) (hyi : y.items = [] ∧ y.seqs = []) (hyt : TaskR c.parts c.flows y) (ht : ∀ c', c'.flows = c.flows → taskF c' y = false) : BadR (withI c (c.items.set k y) c.seqs) 6 c.items[k].id := by
  have hl := h.lev d c rfl
  refine bad_of h (h.chgSet hk y hid ⟨hyi.1, hyi.2, by rw [hy3]; decide, by rw [hy3]; decide, fun _ => hyt⟩) (by decide) ?_
  show levelF _ _ (c.items.set k y) c.seqs false = _
  have hset : c.items.set k y = c.items.take k ++ y :: c.items.drop (k + 1) := by rw [List.set_eq_take_append_cons_drop, if_pos hk]
  have hspl : c.items = c.items.take k ++ c.items[k] :: c.items.drop (k + 1) := by
    conv => lhs; rw [← List.take_append_drop k c.items, List.drop_eq_getElem_cons hk]
  have hkn : ∀ (kd : Int), kindN (c.items.set k y) kd = kindN c.items kd := fun kd => by
    rw [hset, kind_app, kind_cons]
    conv => rhs; rw [hspl, kind_app, kind_cons]
    rw [hy3, h3]
  refine level_at (by decide) (by rw [hkn]; exact h.ks.1) (by rw [hkn]; exact h.ks.2) hl.self hl.pair ?_
  have hdeg : degF c.seqs y.kind y.id = 0 := by
    rw [hy3, hid, ← h3]
    exact hl.deg _ (List.getElem_mem hk)
  conv => lhs; arg 5; rw [hset]
  rw [← hid]
  exact rulL_at (by decide) (rulI_task hdeg hy3 (ht (withI c (c.items.set k y) c.seqs) rfl)) (c.items.drop (k + 1)) (fun z hz => by
    have hzm := List.mem_of_mem_take hz
    exact rulI_ok (hl.deg z hzm) (h.goodAll (c' := withI c (c.items.set k y) c.seqs) rfl z hzm))
theorem DocW.at_ (h : DocW d c x0 e rest init) {k : Nat} (hk : k < c.items.length) (h3 : c.items[k].kind = 3) : ∃ a b f, TaskS c.flows c.items[k] a b f ∧ TaskR c.parts c.flows c.items[k] ∧ c.items[k].items = [] ∧ c.items[k].seqs = [] := by
  obtain ⟨h1, a, b, f, h2⟩ := h.tasks _ (List.getElem_mem hk) h3
  have hp := h.doc.plain _ (List.getElem_mem hk)
  exact ⟨a, b, f, h2, h1, hp.items, hp.seqs⟩
theorem bad8 (h : DocW d c x0 e rest init) {k : Nat} (hk : k < c.items.length) (h3 : c.items[k].kind = 3) : BadR (withI c (c.items.set k (setParts c.items[k] [part0 c.items[k], part0 c.items[k]])) c.seqs) 6 c.items[k].id := by
  obtain ⟨a, b, f, hs, hr, hi, hq⟩ := h.at_ hk h3
  have hp0 : part0 c.items[k] = a := by unfold part0; rw [hs.parts]; rfl
  refine bad_task h hk h3 (setParts c.items[k] [part0 c.items[k], part0 c.items[k]]) rfl h3 ⟨hi, hq⟩ ⟨hr.first, fun p hp => ?_, hr.flows⟩ (fun c' _ => ?_)
  · have hp' : p ∈ [part0 c.items[k], part0 c.items[k]] := hp
    have : p = a := by simp [hp0] at hp'; exact hp'
    rw [this]
    exact hr.parts a (by rw [hs.parts]; simp)
  · unfold taskF
    rw [if_neg (show ¬ (setParts c.items[k] [part0 c.items[k], part0 c.items[k]]).parts.length ≠ 2 from fun ee => ee rfl), if_pos]
    exact (eqS_iff _ _).2 rfl
def flow0 (x : ItemD) : ByteArray := x.flows.getD 0 ⟨#[]⟩
theorem bad9 (h : DocW d c x0 e rest init) {k : Nat} (hk : k < c.items.length) (h3 : c.items[k].kind = 3) : BadR (withI c (c.items.set k (setFlows c.items[k] [flow0 c.items[k], flow0 c.items[k]])) c.seqs) 6 c.items[k].id := by
  obtain ⟨a, b, f, hs, hr, hi, hq⟩ := h.at_ hk h3
  have hf0 : flow0 c.items[k] = f := by
    unfold flow0
    rcases hs.flows with ee | ⟨g, ee, _⟩ <;> rw [ee] <;> rfl
  have hfm : f ∈ c.items[k].flows := by
    rcases hs.flows with ee | ⟨g, ee, _⟩ <;> rw [ee] <;> simp
  refine bad_task h hk h3 (setFlows c.items[k] [flow0 c.items[k], flow0 c.items[k]]) rfl h3 ⟨hi, hq⟩ ⟨hr.first, hr.parts, fun p hp => ?_⟩ (fun c' hc' => ?_)
  · have hp' : p ∈ [flow0 c.items[k], flow0 c.items[k]] := hp
    have : p = f := by simp [hf0] at hp'; exact hp'
    rw [this]
    exact hr.flows f hfm
  · have hn' : (c'.flows.map (·.id)).Nodup := by rw [hc']; exact h.nF
    obtain ⟨f1, f2, f3⟩ := flow_ok hn' (show FlowHas c'.flows f a b by rw [hc']; exact hs.has)
    have p0 : part0 (setFlows c.items[k] [flow0 c.items[k], flow0 c.items[k]]) = a := by show part0 c.items[k] = a; unfold part0; rw [hs.parts]; rfl
    have p1 : part1 (setFlows c.items[k] [flow0 c.items[k], flow0 c.items[k]]) = b := by show part1 c.items[k] = b; unfold part1; rw [hs.parts]; rfl
    have hfi : (setFlows c.items[k] [flow0 c.items[k], flow0 c.items[k]]).first = a := hs.first
    have hpa : (setFlows c.items[k] [flow0 c.items[k], flow0 c.items[k]]).parts = [a, b] := hs.parts
    have hfl : (setFlows c.items[k] [flow0 c.items[k], flow0 c.items[k]]).flows = [f, f] := by show [flow0 c.items[k], flow0 c.items[k]] = [f, f]; rw [hf0]
    have ot : otherF (setFlows c.items[k] [flow0 c.items[k], flow0 c.items[k]]) = b := by unfold otherF; rw [p0, p1, hfi, if_pos ((eqS_iff _ _).2 rfl)]
    unfold taskF
    rw [hpa, if_neg (fun ee => ee rfl), p0, p1, if_neg (by rw [eqS_ne hs.ne]; decide), hfi, if_neg (by rw [List.any_cons, (eqS_iff a a).2 rfl, Bool.true_or]; decide), ot, hfl, if_neg (by simp), if_neg (by simp), flOk, flOk, f2, f3, if_neg (by decide), if_neg (by decide), if_pos rfl, eqS_ne hs.ne]
    simp
theorem bad10 (h : DocW d c x0 e rest init) {k : Nat} (hk : k < c.items.length) (h3 : c.items[k].kind = 3) : BadR (withI c (c.items.set k (setFirst c.items[k] (part1 c.items[k]))) c.seqs) 6 c.items[k].id := by
  obtain ⟨a, b, f, hs, hr, hi, hq⟩ := h.at_ hk h3
  have hp1 : part1 c.items[k] = b := by unfold part1; rw [hs.parts]; rfl
  refine bad_task h hk h3 (setFirst c.items[k] (part1 c.items[k])) rfl h3 ⟨hi, hq⟩ ⟨by show ∃ y ∈ c.parts, y.id = part1 c.items[k]; rw [hp1]; exact hr.parts b (by rw [hs.parts]; simp), hr.parts, hr.flows⟩ (fun c' hc' => ?_)
  have hn' : (c'.flows.map (·.id)).Nodup := by rw [hc']; exact h.nF
  obtain ⟨f1, f2, f3⟩ := flow_ok hn' (show FlowHas c'.flows f a b by rw [hc']; exact hs.has)
  have p0 : part0 (setFirst c.items[k] (part1 c.items[k])) = a := by show part0 c.items[k] = a; unfold part0; rw [hs.parts]; rfl
  have p1 : part1 (setFirst c.items[k] (part1 c.items[k])) = b := hp1
  have hfi : (setFirst c.items[k] (part1 c.items[k])).first = b := hp1
  have hpa : (setFirst c.items[k] (part1 c.items[k])).parts = [a, b] := hs.parts
  have ot : otherF (setFirst c.items[k] (part1 c.items[k])) = a := by unfold otherF; rw [p0, p1, hfi, if_neg (by rw [eqS_ne hs.ne]; decide)]
  obtain ⟨r, hfl⟩ : ∃ r, (setFirst c.items[k] (part1 c.items[k])).flows = f :: r := by
    rcases hs.flows with ee | ⟨g, ee, _⟩
    · exact ⟨[], ee⟩
    · exact ⟨[g], ee⟩
  unfold taskF
  rw [hpa, if_neg (fun ee => ee rfl), p0, p1, if_neg (by rw [eqS_ne hs.ne]; decide), hfi, if_neg (by rw [List.any_cons, List.any_cons, (eqS_iff b b).2 rfl, Bool.true_or, Bool.or_true]; decide), ot, hfl]
  split
  · rfl
  · split
    · rfl
    · rw [flOk, f2, f3, if_neg (by decide), if_neg (by decide), eqS_ne hs.ne]
      simp
end
end Go.Proofs.Ytljmghaplnkohaa
namespace Go.Proofs.Ytljmghaplnkohaa
open Go.RowKit

section
variable {d : DocD} {c : ChorD} {x0 e : ItemD} {rest init : List ItemD}
theorem DocW.ids2 (h : DocW d c x0 e rest init) (k1 k2 : Int) : ((c.items ++ [newI k1 122, newI k2 120]).map (·.id)).Nodup := by
  rw [List.map_append]
  refine List.nodup_append.2 ⟨h.nI, ?_, fun a ha b hb ee => ?_⟩
  · show [zB 122, zB 120].Nodup
    exact List.nodup_cons.2 ⟨by simpa using zB_inj (by decide), by simp⟩
  · obtain ⟨x, hx, rfl⟩ := List.mem_map.1 ha
    have hb' : b ∈ [zB 122, zB 120] := hb
    simp only [List.mem_cons, List.not_mem_nil, or_false] at hb'
    rcases hb' with rfl | rfl
    · exact h.itemZ _ x hx ee
    · exact h.itemZ _ x hx ee
theorem bad7 (h : DocW d c x0 e rest init) : BadR (withI c (c.items ++ [newI 6 122, newI 4 120]) (c.seqs ++ [newQ 121 (zB 122) (zB 120), newQ 119 (zB 122) e.id, newQ 118 (zB 120) (zB 122)])) 5 (zB 122) := by
  have hl := h.lev d c rfl
  obtain ⟨e1, e2⟩ := h.eDeg
  have z1 : zB 122 ≠ zB 120 := zB_inj (by decide)
  have ez1 := h.itemZ 122 e h.em
  have ez2 := h.itemZ 120 e h.em
  have hids := h.ids2 6 4
  refine bad_of h (h.chg [newI 6 122, newI 4 120] [newQ 121 (zB 122) (zB 120), newQ 119 (zB 122) e.id, newQ 118 (zB 120) (zB 122)] (fun x hx => ?_) (fun x hx => ?_) (fun q hq => ?_) ?_ (by simp) (fun q hq => ?_)) (by decide) ?_
  · simp only [List.mem_cons, List.not_mem_nil, or_false] at hx
    rcases hx with rfl | rfl
    · exact ⟨rfl, rfl, by show (6 : Int) ≠ 7; decide, by show (6 : Int) ≠ 8; decide, by show (6 : Int) ≠ 3; decide⟩
    · exact ⟨rfl, rfl, by show (4 : Int) ≠ 7; decide, by show (4 : Int) ≠ 8; decide, by show (4 : Int) ≠ 3; decide⟩
  · simp only [List.mem_cons, List.not_mem_nil, or_false] at hx
    rcases hx with rfl | rfl
    · exact ⟨zB_z _, zB_name _ (by simp)⟩
    · exact ⟨zB_z _, zB_name _ (by simp)⟩
  · simp only [List.mem_cons, List.not_mem_nil, or_false] at hq
    rcases hq with rfl | rfl | rfl
    · exact ⟨zB_z _, zB_name _ (by simp)⟩
    · exact ⟨zB_z _, zB_name _ (by simp)⟩
    · exact ⟨zB_z _, zB_name _ (by simp)⟩
  · show [zB 122, zB 120, zB 121, zB 119, zB 118].Nodup
    decide +kernel
  · simp only [List.mem_cons, List.not_mem_nil, or_false] at hq
    rcases hq with rfl | rfl | rfl
    · exact ⟨⟨newI 6 122, by simp, rfl⟩, newI 4 120, by simp, rfl⟩
    · exact ⟨⟨newI 6 122, by simp, rfl⟩, e, List.mem_append_left _ h.em, rfl⟩
    · exact ⟨⟨newI 4 120, by simp, rfl⟩, newI 6 122, by simp, rfl⟩
  show levelF _ _ (c.items ++ [newI 6 122, newI 4 120]) (c.seqs ++ [newQ 121 (zB 122) (zB 120), newQ 119 (zB 122) e.id, newQ 118 (zB 120) (zB 122)]) false = _
  have hself : ∀ q ∈ c.seqs ++ [newQ 121 (zB 122) (zB 120), newQ 119 (zB 122) e.id, newQ 118 (zB 120) (zB 122)], q.src ≠ q.dst := fun q hq => by
    rcases List.mem_append.1 hq with hq | hq
    · exact hl.self q hq
    · simp only [List.mem_cons, List.not_mem_nil, or_false] at hq
      rcases hq with rfl | rfl | rfl
      · exact z1
      · exact Ne.symm ez1
      · exact Ne.symm z1
  have hpair : ((c.seqs ++ [newQ 121 (zB 122) (zB 120), newQ 119 (zB 122) e.id, newQ 118 (zB 120) (zB 122)]).map fun q => (q.src, q.dst)).Nodup := by
    rw [show c.seqs ++ [newQ 121 (zB 122) (zB 120), newQ 119 (zB 122) e.id, newQ 118 (zB 120) (zB 122)] = ((c.seqs ++ [newQ 121 (zB 122) (zB 120)]) ++ [newQ 119 (zB 122) e.id]) ++ [newQ 118 (zB 120) (zB 122)] by simp]
    refine pair_snoc (pair_snoc (pair_snoc hl.pair (fun z hz ee => (h.seqZ 122 z hz).1 ee.1)) (fun z hz ee => ?_)) (fun z hz ee => ?_)
    · rcases List.mem_append.1 hz with hz | hz
      · exact (h.seqZ 122 z hz).1 ee.1
      · rw [List.mem_singleton.1 hz] at ee; exact ez2 ee.2.symm
    · rcases List.mem_append.1 hz with hz | hz
      · rcases List.mem_append.1 hz with hz | hz
        · exact (h.seqZ 120 z hz).1 ee.1
        · rw [List.mem_singleton.1 hz] at ee; exact z1 ee.1
      · rw [List.mem_singleton.1 hz] at ee; exact z1 ee.1
  refine level_at (by decide) ?_ ?_ hself hpair ?_
  · rw [kind_app, kind_cons, kind_cons, if_neg (show ¬ (newI 6 122).kind = 1 from by show ¬ (6 : Int) = 1; decide), if_neg (show ¬ (newI 4 120).kind = 1 from by show ¬ (4 : Int) = 1; decide), h.ks.1]; rfl
  · rw [kind_app, kind_cons, kind_cons, if_neg (show ¬ (newI 6 122).kind = 2 from by show ¬ (6 : Int) = 2; decide), if_neg (show ¬ (newI 4 120).kind = 2 from by show ¬ (4 : Int) = 2; decide), h.ks.2]; rfl
  · have hin0 : inN c.seqs (zB 122) = 0 := inN_zero (fun q hq => (h.seqZ 122 q hq).2)
    have hout0 : outN c.seqs (zB 122) = 0 := outN_zero (fun q hq => (h.seqZ 122 q hq).1)
    have hi : inN (c.seqs ++ [newQ 121 (zB 122) (zB 120), newQ 119 (zB 122) e.id, newQ 118 (zB 120) (zB 122)]) (zB 122) = 1 := by
      rw [inN_app, hin0, in3]
      show 0 + ((if zB 122 = zB 120 then 1 else 0) + ((if zB 122 = e.id then 1 else 0) + (if zB 122 = zB 122 then 1 else 0))) = 1
      rw [if_neg z1, if_neg (Ne.symm ez1), if_pos rfl]
    have ho : outN (c.seqs ++ [newQ 121 (zB 122) (zB 120), newQ 119 (zB 122) e.id, newQ 118 (zB 120) (zB 122)]) (zB 122) = 2 := by
      rw [outN_app, hout0, out3]
      show 0 + ((if zB 122 = zB 122 then 1 else 0) + ((if zB 122 = zB 122 then 1 else 0) + (if zB 122 = zB 120 then 1 else 0))) = 2
      rw [if_neg z1, if_pos rfl]
    have hdz : degF (c.seqs ++ [newQ 121 (zB 122) (zB 120), newQ 119 (zB 122) e.id, newQ 118 (zB 120) (zB 122)]) 6 (zB 122) = 0 := by
      unfold degF
      rw [hi, ho]
      rfl
    have hlen : (c.items ++ [newI 6 122, newI 4 120]).length = c.items.length + 2 := by simp
    have hk1 : c.items.length + 1 < (c.items ++ [newI 6 122, newI 4 120]).length := by omega
    have hat : (c.items ++ [newI 6 122, newI 4 120])[c.items.length + 1] = newI 4 120 := by
      rw [List.getElem_append_right (by omega)]
      simp
    have hik : itemK (c.items ++ [newI 6 122, newI 4 120]) (zB 120) = ((c.items.length + 1 : Nat) : Int) := by
      have := item_at hids hk1
      rw [hat] at this
      exact this
    have hka : kindAt (c.items ++ [newI 6 122, newI 4 120]) ((c.items.length + 1 : Nat) : Int) = 4 := by
      unfold kindAt
      rw [Int.toNat_natCast, List.getD_eq_getElem?_getD, List.getElem?_eq_getElem hk1, hat]
      rfl
    have hev : evF (c.items ++ [newI 6 122, newI 4 120]) (c.seqs ++ [newQ 121 (zB 122) (zB 120), newQ 119 (zB 122) e.id, newQ 118 (zB 120) (zB 122)]) (zB 122) = false := by
      unfold evF
      rw [Bool.and_eq_false_iff]
      right
      rw [List.all_eq_false]
      refine ⟨newQ 121 (zB 122) (zB 120), by simp, ?_⟩
      unfold evQ
      rw [show (newQ 121 (zB 122) (zB 120)).src = zB 122 from rfl, show (newQ 121 (zB 122) (zB 120)).dst = zB 120 from rfl, (eqS_iff _ _).2 rfl, hik, hka]
      simp
    refine rulL_at (x := newI 6 122) (by decide) ?_ [newI 4 120] (fun y hy => ?_)
    · have hif : ∀ d' c', itemF d' c' (c.items ++ [newI 6 122, newI 4 120]) (c.seqs ++ [newQ 121 (zB 122) (zB 120), newQ 119 (zB 122) e.id, newQ 118 (zB 120) (zB 122)]) (newI 6 122) = 5 := fun d' c' => by
        unfold itemF
        rw [show (newI 6 122).kind = 6 from rfl, show (newI 6 122).id = zB 122 from rfl, hdz, hev]
        rfl
      rw [rulI_eq, hif, if_pos (by decide)]
      rfl
    · refine rulI_ok ?_ (h.goodAll (c' := withI c (c.items ++ [newI 6 122, newI 4 120]) (c.seqs ++ [newQ 121 (zB 122) (zB 120), newQ 119 (zB 122) e.id, newQ 118 (zB 120) (zB 122)])) rfl y hy)
      have y1 := h.itemZ 122 y hy
      have y2 := h.itemZ 120 y hy
      have hoy : outN [newQ 121 (zB 122) (zB 120), newQ 119 (zB 122) e.id, newQ 118 (zB 120) (zB 122)] y.id = 0 := by
        rw [out3]
        show (if y.id = zB 122 then 1 else 0) + ((if y.id = zB 122 then 1 else 0) + (if y.id = zB 120 then 1 else 0)) = 0
        rw [if_neg y1, if_neg y2]
      have hiy : inN [newQ 121 (zB 122) (zB 120), newQ 119 (zB 122) e.id, newQ 118 (zB 120) (zB 122)] y.id = if y.id = e.id then 1 else 0 := by
        rw [in3]
        show (if y.id = zB 120 then 1 else 0) + ((if y.id = e.id then 1 else 0) + (if y.id = zB 122 then 1 else 0)) = _
        rw [if_neg y1, if_neg y2]
        omega
      by_cases hye : y.id = e.id
      · have : y = e := nodup_same h.nI hy h.em hye
        rw [this] at hoy hiy ⊢
        rw [if_pos rfl] at hiy
        refine deg_ok (.inr (.inl ⟨h.ke, ?_, ?_⟩))
        · rw [inN_app]; omega
        · rw [outN_app]; omega
      · rw [if_neg hye] at hiy
        rw [deg_same hiy hoy]
        exact hl.deg y hy
theorem in2 (q1 q2 : SeqD) (a : ByteArray) : inN [q1, q2] a = (if a = q1.dst then 1 else 0) + (if a = q2.dst then 1 else 0) := by
  rw [show [q1, q2] = [q1] ++ [q2] from rfl, inN_app, in_one, in_one]
theorem out2 (q1 q2 : SeqD) (a : ByteArray) : outN [q1, q2] a = (if a = q1.src then 1 else 0) + (if a = q2.src then 1 else 0) := by
  rw [show [q1, q2] = [q1] ++ [q2] from rfl, outN_app, out_one, out_one]
theorem bad11 (h : DocW d c x0 e rest init) : BadR (withI c (c.items ++ [newI 5 122, newI 5 120]) (c.seqs ++ [newQ 121 (zB 122) (zB 120), newQ 119 (zB 120) (zB 122)])) 8 ⟨#[]⟩ := by
  have hl := h.lev d c rfl
  have z1 : zB 122 ≠ zB 120 := zB_inj (by decide)
  have hids := h.ids2 5 5
  refine bad_of h (h.chg [newI 5 122, newI 5 120] [newQ 121 (zB 122) (zB 120), newQ 119 (zB 120) (zB 122)] (fun x hx => ?_) (fun x hx => ?_) (fun q hq => ?_) ?_ (by simp) (fun q hq => ?_)) (by decide) ?_
  · simp only [List.mem_cons, List.not_mem_nil, or_false] at hx
    rcases hx with rfl | rfl
    · exact ⟨rfl, rfl, by show (5 : Int) ≠ 7; decide, by show (5 : Int) ≠ 8; decide, by show (5 : Int) ≠ 3; decide⟩
    · exact ⟨rfl, rfl, by show (5 : Int) ≠ 7; decide, by show (5 : Int) ≠ 8; decide, by show (5 : Int) ≠ 3; decide⟩
  · simp only [List.mem_cons, List.not_mem_nil, or_false] at hx
    rcases hx with rfl | rfl
    · exact ⟨zB_z _, zB_name _ (by simp)⟩
    · exact ⟨zB_z _, zB_name _ (by simp)⟩
  · simp only [List.mem_cons, List.not_mem_nil, or_false] at hq
    rcases hq with rfl | rfl
    · exact ⟨zB_z _, zB_name _ (by simp)⟩
    · exact ⟨zB_z _, zB_name _ (by simp)⟩
  · show [zB 122, zB 120, zB 121, zB 119].Nodup
    decide +kernel
  · simp only [List.mem_cons, List.not_mem_nil, or_false] at hq
    rcases hq with rfl | rfl
    · exact ⟨⟨newI 5 122, by simp, rfl⟩, newI 5 120, by simp, rfl⟩
    · exact ⟨⟨newI 5 120, by simp, rfl⟩, newI 5 122, by simp, rfl⟩
  obtain ⟨c', hc'⟩ : ∃ z, z = withI c (c.items ++ [newI 5 122, newI 5 120]) (c.seqs ++ [newQ 121 (zB 122) (zB 120), newQ 119 (zB 120) (zB 122)]) := ⟨_, rfl⟩
  have hfl : c'.flows = c.flows := by rw [hc']; rfl
  have ecI : c'.items = c.items ++ [newI 5 122, newI 5 120] := by rw [hc']; rfl
  have ecS : c'.seqs = c.seqs ++ [newQ 121 (zB 122) (zB 120), newQ 119 (zB 120) (zB 122)] := by rw [hc']; rfl
  rw [← hc', ecI, ecS]
  have hk1 : kindN (c.items ++ [newI 5 122, newI 5 120]) 1 = 1 := by
    rw [kind_app, kind_cons, kind_cons, if_neg (show ¬ (newI 5 122).kind = 1 from by show ¬ (5 : Int) = 1; decide), if_neg (show ¬ (newI 5 120).kind = 1 from by show ¬ (5 : Int) = 1; decide), h.ks.1]; rfl
  have hk2 : kindN (c.items ++ [newI 5 122, newI 5 120]) 2 = 1 := by
    rw [kind_app, kind_cons, kind_cons, if_neg (show ¬ (newI 5 122).kind = 2 from by show ¬ (5 : Int) = 2; decide), if_neg (show ¬ (newI 5 120).kind = 2 from by show ¬ (5 : Int) = 2; decide), h.ks.2]; rfl
  have hself : ∀ q ∈ c.seqs ++ [newQ 121 (zB 122) (zB 120), newQ 119 (zB 120) (zB 122)], q.src ≠ q.dst := fun q hq => by
    rcases List.mem_append.1 hq with hq | hq
    · exact hl.self q hq
    · simp only [List.mem_cons, List.not_mem_nil, or_false] at hq
      rcases hq with rfl | rfl
      · exact z1
      · exact Ne.symm z1
  have hpair : ((c.seqs ++ [newQ 121 (zB 122) (zB 120), newQ 119 (zB 120) (zB 122)]).map fun q => (q.src, q.dst)).Nodup := by
    rw [show c.seqs ++ [newQ 121 (zB 122) (zB 120), newQ 119 (zB 120) (zB 122)] = (c.seqs ++ [newQ 121 (zB 122) (zB 120)]) ++ [newQ 119 (zB 120) (zB 122)] by simp]
    refine pair_snoc (pair_snoc hl.pair (fun z hz ee => (h.seqZ 122 z hz).1 ee.1)) (fun z hz ee => ?_)
    rcases List.mem_append.1 hz with hz | hz
    · exact (h.seqZ 120 z hz).1 ee.1
    · rw [List.mem_singleton.1 hz] at ee; exact z1 ee.1
  have hi0 : ∀ b, inN c.seqs (zB b) = 0 := fun b => inN_zero (fun q hq => (h.seqZ b q hq).2)
  have ho0 : ∀ b, outN c.seqs (zB b) = 0 := fun b => outN_zero (fun q hq => (h.seqZ b q hq).1)
  have hru : rulL ⟨gmsgsF, [c']⟩ c' (c.items ++ [newI 5 122, newI 5 120]) (c.seqs ++ [newQ 121 (zB 122) (zB 120), newQ 119 (zB 120) (zB 122)]) (c.items ++ [newI 5 122, newI 5 120]) = (0, ⟨#[]⟩) := by
    refine rulL_ok (fun y hy => ?_)
    have good5 : ∀ b, GoodI ⟨gmsgsF, [c']⟩ c' (newI 5 b) := fun b => by
      have hk : (newI 5 b).kind = 5 := rfl
      exact ⟨fun e => by omega, fun e => by omega, fun e => by omega, fun e => by omega⟩
    rcases List.mem_append.1 hy with hy | hy
    · refine rulI_ok ?_ (h.goodAll hfl y hy)
      have y1 := h.itemZ 122 y hy
      have y2 := h.itemZ 120 y hy
      rw [deg_same]
      · exact hl.deg y hy
      · rw [in2]
        show (if y.id = zB 120 then 1 else 0) + (if y.id = zB 122 then 1 else 0) = 0
        rw [if_neg y1, if_neg y2]
      · rw [out2]
        show (if y.id = zB 122 then 1 else 0) + (if y.id = zB 120 then 1 else 0) = 0
        rw [if_neg y1, if_neg y2]
    · simp only [List.mem_cons, List.not_mem_nil, or_false] at hy
      rcases hy with rfl | rfl
      · refine rulI_ok (deg_ok (.inr (.inr (.inr ⟨.inr rfl, ?_, ?_⟩)))) (good5 122)
        · rw [inN_app, in2]
          show 1 ≤ inN c.seqs (zB 122) + ((if zB 122 = zB 120 then 1 else 0) + (if zB 122 = zB 122 then 1 else 0))
          rw [if_pos rfl]; omega
        · rw [outN_app, out2]
          show 1 ≤ outN c.seqs (zB 122) + ((if zB 122 = zB 122 then 1 else 0) + (if zB 122 = zB 120 then 1 else 0))
          rw [if_pos rfl]; omega
      · refine rulI_ok (deg_ok (.inr (.inr (.inr ⟨.inr rfl, ?_, ?_⟩)))) (good5 120)
        · rw [inN_app, in2]
          show 1 ≤ inN c.seqs (zB 120) + ((if zB 120 = zB 120 then 1 else 0) + (if zB 120 = zB 122 then 1 else 0))
          rw [if_pos rfl]; omega
        · rw [outN_app, out2]
          show 1 ≤ outN c.seqs (zB 120) + ((if zB 120 = zB 122 then 1 else 0) + (if zB 120 = zB 120 then 1 else 0))
          rw [if_neg (Ne.symm z1), if_pos rfl]; omega
  have hnr : ¬ allReach (c.items ++ [newI 5 122, newI 5 120]) (c.seqs ++ [newQ 121 (zB 122) (zB 120), newQ 119 (zB 120) (zB 122)]) := fun hall => by
    have key : ∀ i, Reach (c.items ++ [newI 5 122, newI 5 120]) (c.seqs ++ [newQ 121 (zB 122) (zB 120), newQ 119 (zB 120) (zB 122)]) i → i < c.items.length := fun i hr => by
      induction hr with
      | start i hi hk =>
        rcases Nat.lt_or_ge i c.items.length with hlt | hge
        · exact hlt
        · exfalso
          rw [List.getElem_append_right hge] at hk
          have hm : [newI 5 122, newI 5 120][i - c.items.length]'(by simp at hi ⊢; omega) ∈ [newI 5 122, newI 5 120] := List.getElem_mem _
          generalize [newI 5 122, newI 5 120][i - c.items.length]'(by simp at hi ⊢; omega) = y at hk hm
          simp only [List.mem_cons, List.not_mem_nil, or_false] at hm
          rcases hm with rfl | rfl
          · exact absurd hk (by decide)
          · exact absurd hk (by decide)
      | step i k q _ hq he hk ih =>
        have hi : i < (c.items ++ [newI 5 122, newI 5 120]).length := by simp; omega
        rw [idAt_at hi, List.getElem_append_left ih, eqS_iff] at he
        have hqs : q ∈ c.seqs := by
          rcases List.mem_append.1 hq with hq | hq
          · exact hq
          · simp only [List.mem_cons, List.not_mem_nil, or_false] at hq
            rcases hq with rfl | rfl
            · exact absurd he.symm (h.itemZ 122 _ (List.getElem_mem ih))
            · exact absurd he.symm (h.itemZ 120 _ (List.getElem_mem ih))
        obtain ⟨_, y, hy, e2⟩ := h.seqs q hqs
        obtain ⟨j, hj, e3⟩ := List.getElem_of_mem hy
        have hj' : j < (c.items ++ [newI 5 122, newI 5 120]).length := by simp; omega
        have h1 := item_at hids hj'
        rw [List.getElem_append_left hj, e3, e2, hk] at h1
        omega
    have := key c.items.length (hall c.items.length (by simp))
    omega
  rw [levelF_on hk1 (by unfold endB; rw [hk2]; rfl), seqBad_ok [] _ hself (by simpa using hpair), if_neg (fun e => e rfl), hru, if_neg (fun e => e rfl)]
  unfold postF
  rw [if_neg hnr]
end
end Go.Proofs.Ytljmghaplnkohaa
