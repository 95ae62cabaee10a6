/- The law InlineCalls: all that is wanted of a nested document. -/
import Derived.Test.YteoioboiniealaaInlS
namespace Go.Proofs.Yteoioboiniealaa
open Go.RowKit

theorem smallL_of : ∀ {l : List ItemD}, (∀ x ∈ l, smallI x) → smallL l
  | [], _ => by unfold smallL; trivial
  | x :: l, h => by
    unfold smallL
    exact ⟨h x (List.mem_cons_self ..), smallL_of (fun y hy => h y (List.mem_cons_of_mem _ hy))⟩
theorem smallI_plain {x : ItemD} (h : PlainI x) : smallI x := by
  obtain ⟨h1, h2, h3, h4, h5, h6, h7, h8, h9, h10⟩ := h
  obtain ⟨kind, id, first, parts, flows, loop, called, maps, items, seqs⟩ := x
  simp only at h2 h4 h5 h6 h8 h9 h10
  subst h8 h9 h10
  unfold smallI
  refine ⟨by omega, by omega, by omega, fun f hf => by have := h6 f hf; omega, by simp, by simp, by unfold smallL; trivial, by simp, fun s hs => by simp at hs⟩
theorem calls_plain {l : List ItemD} (h : ∀ x ∈ l, PlainI x) : callsF l = false := by
  rw [callsF_any]
  refine List.any_eq_false.2 (fun x hx => ?_)
  have hx := h x hx
  rw [callsI_eq, hx.items]
  have hk : x.kind ≠ 8 := by have := hx.kind; omega
  simp [hk, callsF]
theorem calls_append (l r : List ItemD) : callsF (l ++ r) = (callsF l || callsF r) := by
  rw [callsF_any, callsF_any, callsF_any, List.any_append]
theorem seqs_small {m : MkD} (h : PlainM m) : ∀ s ∈ m.seqs, SmallS s := fun s hs => by
  have := h.seqs s hs
  unfold SmallS
  omega
/-- All that is wanted of a nested document. -/
structure NestOk (d : DocD) (c x : ChorD) : Prop where
  eq : d = ⟨gmsgsF, [c, x]⟩
  cid : c.id = sC
  xid : x.id = sD
  got : chorF d 3 sC = some (wantC c x, 0)
  alone : chorF d 3 sD = some (x, 0)
  small : ∀ y ∈ d.chors, SmallC y
  parts : ∀ y ∈ d.chors, y.parts.length ≤ 1000000
  count : ∀ id, id = sC ∨ id = sD → ∀ y ∈ d.chors, ∀ its s, itemsF d 3 ⟨#[]⟩ [] [id] y.items ⟨y.flows, 0, 0⟩ = some (its, s) → s.n ≤ 1000000 ∧ s.flows.length ≤ 1000000
  calls : callsF c.items = true
  none_ : callsF (wantC c x).items = false
  ncI : c.items.length ≤ 110
  ncF : c.flows.length ≤ 250
  nxF : x.flows.length ≤ 108
  nxI : x.items.length ≤ 108
  nxS : x.seqs.length ≤ 108
  xf : ∀ f ∈ x.flows, f.id.size ≤ 20
  xi : ∀ y ∈ x.items, PlainI y
  xs : ∀ s ∈ x.seqs, s.id.size ≤ 20 ∧ s.src.size ≤ 20 ∧ s.dst.size ≤ 20
theorem nest_ok (p q : List Int) (hp : p.length ≤ maxLen) (hq : q.length ≤ maxLen) : ∃ c x, NestOk (gnestedF p q) c x := by
  obtain ⟨c0, hc0⟩ : ∃ c, c = gchorF p sC ⟨#[]⟩ := ⟨_, rfl⟩
  obtain ⟨x, hx⟩ : ∃ x, x = gchorF q sD ⟨#[120]⟩ := ⟨_, rfl⟩
  obtain ⟨parts, hparts⟩ : ∃ P, P = gmoreF x.parts.length c0.parts := ⟨_, rfl⟩
  obtain ⟨m, hm⟩ : ∃ m, m = ginF q parts := ⟨_, rfl⟩
  obtain ⟨ms, hms⟩ : ∃ ms, ms = (gcallF x parts q).maps := ⟨_, rfl⟩
  have hd : gnestedF p q = nestX c0 x parts ms m (gseqsF c0.seqs) := by rw [hms, hm, hparts, hx, hc0]; rfl
  have hcf := gchor_facts p hp sC ⟨#[]⟩ (by decide)
  have hxf := gchor_facts q hq sD ⟨#[120]⟩ (by decide)
  rw [← hc0] at hcf
  rw [← hx] at hxf
  obtain ⟨hc2, hc4, hcF, hcI, hcS, hcS1⟩ := hcf
  obtain ⟨hx2, hx4, hxF, hxI, hxS, hxS1⟩ := hxf
  have pc : PlainM (gmakeF p ⟨#[]⟩) := plain_chor p ⟨#[]⟩ (by decide)
  have px : PlainM (gmakeF q ⟨#[120]⟩) := plain_chor q ⟨#[120]⟩ (by decide)
  have pm : PlainM m := by rw [hm]; exact plain_in q parts
  have ic : ∀ y ∈ c0.items, PlainI y := by rw [hc0]; exact pc.items
  have ix : ∀ y ∈ x.items, PlainI y := by rw [hx]; exact px.items
  have h1 : (x.items.filter (fun y => y.kind == 2)).length = 1 := by
    rw [hx]
    exact one_end (m := gbeginF q (2 + pickF q 0 % 16 % 3) ⟨#[120]⟩) rfl 3
  have gm : GrowM (gG 1 + 6) ⟨q, 5, 0, parts, [], [], [], ⟨#[121]⟩⟩ m := by rw [hm]; exact grow_level' _ 1
  have hg1 : gG 1 = 19 := rfl
  have gmI : m.items.length ≤ 25 := by have h : m.items.length ≤ 0 + (gG 1 + 6) := gm.items; rw [hg1] at h; omega
  have gmF : m.flows.length ≤ 25 := by have h : m.flows.length ≤ 0 + (gG 1 + 6) := gm.flows; rw [hg1] at h; omega
  have gmS : m.seqs.length ≤ 25 := by have h : m.seqs.length ≤ 0 + (gG 1 + 6) := gm.seqs; rw [hg1] at h; omega
  have hml : ms.length ≤ 4 := by rw [hms]; unfold gcallF; simp; omega
  have hpl : parts.length ≤ 8 := by rw [hparts]; unfold gmoreF; simp; omega
  have hcid : c0.id = sC := by rw [hc0]; rfl
  have hxid : x.id = sD := by rw [hx]; rfl
  have hxe : (⟨sD, x.parts, x.flows, x.items, x.seqs⟩ : ChorD) = x := by rw [← hxid]
  obtain ⟨n1, hn1, hit⟩ := nest_items c0 x parts ms m (gseqsF c0.seqs) ic ix pm.items h1 ⟨hcI, hxI, by omega⟩
  obtain ⟨n2, hn2, hcy⟩ := nest_cycle c0 x parts ms m (gseqsF c0.seqs) ic hcI
  have hpx := fun id => nest_plain (nestX c0 x parts ms m (gseqsF c0.seqs)) id x ix hxI
  have hchors : ∀ y ∈ (nestX c0 x parts ms m (gseqsF c0.seqs)).chors, y = ⟨sC, parts, c0.flows ++ m.flows, c0.items ++ [callX ms, gsubF m], gseqsF c0.seqs⟩ ∨ y = ⟨sD, x.parts, x.flows, x.items, x.seqs⟩ := fun y hy => by
    have hy' : y ∈ ([⟨sC, parts, c0.flows ++ m.flows, c0.items ++ [callX ms, gsubF m], gseqsF c0.seqs⟩, ⟨sD, x.parts, x.flows, x.items, x.seqs⟩] : List ChorD) := hy
    simpa using hy'
  have hsub : smallI (gsubF m) := by
    unfold gsubF smallI
    exact ⟨by decide, by simp, by simp, fun f hf => by simp at hf, by simp, by omega, smallL_of (fun y hy => smallI_plain (pm.items y hy)), by omega, seqs_small pm⟩
  have hcall : smallI (callX ms) := by
    unfold callX smallI
    exact ⟨by decide, by simp, by simp, fun f hf => by simp at hf, by omega, by simp, by unfold smallL; trivial, by simp, fun s hs => by simp at hs⟩
  have hsq : ∀ s ∈ c0.seqs, SmallS s := by rw [hc0]; exact seqs_small pc
  have hlast : SmallS (c0.seqs.getLastD ⟨⟨#[]⟩, ⟨#[]⟩, ⟨#[]⟩⟩) := by
    have hne : c0.seqs ≠ [] := fun e => by rw [e] at hcS1; simp at hcS1
    rw [List.getLastD_eq_getLast?, List.getLast?_eq_some_getLast hne]
    exact hsq _ (List.getLast_mem hne)
  have hsqs : ∀ s ∈ gseqsF c0.seqs, SmallS s := fun s hs => by
    unfold gseqsF at hs
    rcases List.mem_append.1 hs with hs | hs
    · exact hsq s (List.dropLast_subset _ hs)
    · simp only [List.mem_cons, List.not_mem_nil, or_false] at hs
      rcases hs with rfl | rfl | rfl
      · exact ⟨hlast.1, hlast.2.1, by show gcallS.size ≤ 1000; decide⟩
      · exact ⟨by decide, by decide, by decide⟩
      · exact ⟨by show (⟨#[115, 113, 50]⟩ : ByteArray).size ≤ 1000; decide, by show gsubS.size ≤ 1000; decide, hlast.2.2⟩
  have hsl : (gseqsF c0.seqs).length ≤ 120 := by unfold gseqsF; simp; omega
  have hw : wantC ⟨sC, parts, c0.flows ++ m.flows, c0.items ++ [callX ms, gsubF m], gseqsF c0.seqs⟩ ⟨sD, x.parts, x.flows, x.items, x.seqs⟩ = ⟨sC, parts, c0.flows ++ m.flows ++ x.flows.map (flowF sPath ms), c0.items ++ [calledF x ms, gsubF m], gseqsF c0.seqs⟩ := by
    unfold wantC
    simp only
    obtain ⟨e1, e2⟩ := plain_kinds ic ⟨sD, x.parts, x.flows, x.items, x.seqs⟩
    rw [List.map_append, List.flatMap_append, e1, e2]
    have e3 : ([callX ms, gsubF m].map (wantI ⟨sD, x.parts, x.flows, x.items, x.seqs⟩)) = [calledF x ms, gsubF m] := rfl
    have e4 : ([callX ms, gsubF m].flatMap (wantFl ⟨sD, x.parts, x.flows, x.items, x.seqs⟩)) = x.flows.map (flowF sPath ms) := by
      rw [List.flatMap_cons, List.flatMap_cons, List.flatMap_nil]
      show x.flows.map (flowF sPath ms) ++ ([] ++ []) = _
      simp
    rw [e3, e4]
    simp
  refine ⟨⟨sC, parts, c0.flows ++ m.flows, c0.items ++ [callX ms, gsubF m], gseqsF c0.seqs⟩, ⟨sD, x.parts, x.flows, x.items, x.seqs⟩, ?_⟩
  rw [hd]
  have hfC : findFrom (fun c : ChorD => eqS c.id sC) (nestX c0 x parts ms m (gseqsF c0.seqs)).chors 0 = 0 := by
    show (if eqS sC sC = true then ((0 : Nat) : Int) else _) = 0
    rw [eqS_refl]
    rfl
  have hfD : findFrom (fun c : ChorD => eqS c.id sD) (nestX c0 x parts ms m (gseqsF c0.seqs)).chors 0 = 1 := nest_find c0 x parts ms m (gseqsF c0.seqs)
  refine ⟨rfl, rfl, rfl, ?_, ?_, ?_, ?_, ?_, ?_, ?_, ?_, ?_, hxF, hxI, hxS, ?_, ix, ?_⟩
  · rw [hw]
    unfold chorF
    simp only
    rw [hfC, if_neg (by decide)]
    rw [show (nestX c0 x parts ms m (gseqsF c0.seqs)).chors[Int.toNat 0]? = some ⟨sC, parts, c0.flows ++ m.flows, c0.items ++ [callX ms, gsubF m], gseqsF c0.seqs⟩ from rfl]
    simp only
    rw [hit]
    simp
  · unfold chorF
    simp only
    rw [hfD, if_neg (by decide)]
    rw [show (nestX c0 x parts ms m (gseqsF c0.seqs)).chors[Int.toNat 1]? = some ⟨sD, x.parts, x.flows, x.items, x.seqs⟩ from rfl]
    simp only
    rw [hpx sD]
    simp
  · intro y hy
    rcases hchors y hy with rfl | rfl
    · refine ⟨by simp; omega, fun f hf => ?_, by simp; omega, smallL_of (fun y hy => ?_), by show (gseqsF c0.seqs).length ≤ _; omega, hsqs⟩
      · rcases List.mem_append.1 hf with hf | hf
        · have : f.id.size ≤ 20 := by rw [hc0] at hf; exact pc.flows f hf
          omega
        · have := pm.flows f hf
          omega
      · rcases List.mem_append.1 hy with hy | hy
        · exact smallI_plain (ic y hy)
        · simp only [List.mem_cons, List.not_mem_nil, or_false] at hy
          rcases hy with rfl | rfl
          · exact hcall
          · exact hsub
    · refine ⟨by show x.flows.length ≤ _; omega, fun f hf => ?_, by show x.items.length ≤ _; omega, smallL_of (fun y hy => smallI_plain (ix y hy)), by show x.seqs.length ≤ _; omega, by rw [hx]; exact seqs_small px⟩
      have : f.id.size ≤ 20 := by rw [hx] at hf; exact px.flows f hf
      omega
  · intro y hy
    rcases hchors y hy with rfl | rfl
    · show parts.length ≤ _; omega
    · show x.parts.length ≤ _; omega
  · intro id hid y hy its s hs
    rcases hchors y hy with rfl | rfl
    · rcases hid with rfl | rfl
      · rw [hit] at hs
        injection hs with hs
        injection hs with _ hs
        rw [← hs]
        refine ⟨by show n1 ≤ _; omega, by simp; omega⟩
      · rw [hcy] at hs
        injection hs with hs
        injection hs with _ hs
        rw [← hs]
        refine ⟨by show n2 ≤ _; omega, by simp; omega⟩
    · rw [hpx id] at hs
      injection hs with hs
      injection hs with _ hs
      rw [← hs]
      refine ⟨by show (0 : Int) + _ ≤ _; omega, by show x.flows.length ≤ _; omega⟩
  · show callsF (c0.items ++ [callX ms, gsubF m]) = true
    rw [calls_append]
    have : callsF [callX ms, gsubF m] = true := by
      rw [callsF_any]
      show (callsI (callX ms) || _) = true
      rw [callsI_eq]
      rfl
    rw [this, Bool.or_true]
  · rw [hw]
    show callsF (c0.items ++ [calledF x ms, gsubF m]) = false
    rw [calls_append, calls_plain ic, callsF_any]
    show (false || (callsI (calledF x ms) || (callsI (gsubF m) || false))) = false
    rw [callsI_eq, callsI_eq]
    have e1 : callsF (calledF x ms).items = false := by
      show callsF (x.items.map (movedF sPath ms)) = false
      rw [callsF_any]
      refine List.any_eq_false.2 (fun z hz => ?_)
      obtain ⟨y, hy, rfl⟩ := List.mem_map.1 hz
      rw [callsI_eq]
      have hk : y.kind ≠ 8 := by have := (ix y hy).kind; omega
      show ¬ ((y.kind == 8) || callsF []) = true
      simp [hk, callsF]
    have e2 : callsF (gsubF m).items = false := calls_plain pm.items
    rw [e1, e2]
    rfl
  · show (c0.items ++ [callX ms, gsubF m]).length ≤ 110
    simp; omega
  · show (c0.flows ++ m.flows).length ≤ 250
    simp; omega
  · intro f hf
    have hf' : f ∈ x.flows := hf
    rw [hx] at hf'
    exact px.flows f hf'
  · intro s hs
    have hs' : s ∈ x.seqs := hs
    rw [hx] at hs'
    exact px.seqs s hs'
end Go.Proofs.Yteoioboiniealaa
