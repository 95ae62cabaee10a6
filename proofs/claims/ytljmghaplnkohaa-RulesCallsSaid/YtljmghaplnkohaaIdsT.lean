/- Plain law: a nested document: all that the laws of layer 9 ask of it. -/
import Derived.Test.YtljmghaplnkohaaIdsLaw
namespace Go.Proofs.Ytljmghaplnkohaa
open Go.RowKit

/-- What a nested document is for the laws of layer 9. -/
structure NestI (d : DocD) (c x : ChorD) : Prop where
  eq : d = ⟨gmsgsF, [c, x]⟩
  cid : c.id = ⟨#[99]⟩
  xid : x.id = ⟨#[100]⟩
  adds : addsF [] (idsD d) = (0, idsD d)
  fit : IdsFit [] (idsD d)
  names : ∀ a ∈ idsD d, isName a = true
  refs : refsF d = true
  nI : (c.items.map (·.id)).Nodup
  nP : (c.parts.map (·.id)).Nodup
  nF : (c.flows.map (·.id)).Nodup
  lI : 0 < c.items.length ∧ c.items.length ≤ 110
  lP : 0 < c.parts.length ∧ c.parts.length ≤ 10
  lF : 0 < c.flows.length ∧ c.flows.length ≤ 250
theorem more_mem {n : Nat} {l : List PartD} {y : PartD} (h : y ∈ l) : y ∈ gmoreF n l := List.mem_append_left _ h
theorem sub_mid {α : Type} {a b c d : List α} (h : b.Sublist c) : b.Sublist (a ++ (c ++ d)) := (h.trans (List.sublist_append_left c d)).trans (List.sublist_append_right a _)
theorem nest_i (p q : List Int) (hp : p.length ≤ maxLen) (hq : q.length ≤ maxLen) : ∃ c x, NestI (gnestedF p q) c x := by
  obtain ⟨mc, hmc⟩ : ∃ m, m = gmakeF p ⟨#[]⟩ := ⟨_, rfl⟩
  obtain ⟨mx, hmx⟩ : ∃ m, m = gmakeF q ⟨#[120]⟩ := ⟨_, rfl⟩
  have pc : PlainM mc := by rw [hmc]; exact plain_chor p ⟨#[]⟩ (by decide)
  have px : PlainM mx := by rw [hmx]; exact plain_chor q ⟨#[120]⟩ (by decide)
  have rc : RefM mc := by rw [hmc]; exact ref_make p _
  have rx : RefM mx := by rw [hmx]; exact ref_make q _
  have hfc := gchor_facts p hp ⟨#[99]⟩ ⟨#[]⟩ (by decide)
  have hfx := gchor_facts q hq ⟨#[100]⟩ ⟨#[120]⟩ (by decide)
  have lc : mc.parts.length ≤ 4 ∧ mc.flows.length ≤ 108 ∧ mc.items.length ≤ 108 ∧ mc.seqs.length ≤ 108 ∧ 1 ≤ mc.seqs.length := by rw [hmc]; exact hfc.2
  have lx : mx.parts.length ≤ 4 := by rw [hmx]; exact hfx.2.1
  obtain ⟨P, hP⟩ : ∃ P, P = gmoreF mx.parts.length mc.parts := ⟨_, rfl⟩
  have hPl : 2 ≤ P.length ∧ P.length ≤ 8 := by
    have := rc.two
    rw [hP]; unfold gmoreF; simp; omega
  obtain ⟨my, hmy⟩ : ∃ m, m = ginF q P := ⟨_, rfl⟩
  have py : PlainM my := by rw [hmy]; exact plain_in q _
  have ry : RefM my := by rw [hmy]; exact ref_in q P hPl.1
  have hyP : my.parts = P := by rw [hmy]; exact ginF_parts q P
  have hyF : my.flows.length ≤ 25 := by
    have gm := grow_levelI ⟨q, 5, 0, P, [], [], [], ⟨#[121]⟩⟩ 1
    have h : my.flows.length ≤ 0 + (gG 1 + 6) := by rw [hmy]; exact gm.flows
    have hG : gG 1 = 19 := rfl
    rw [hG] at h
    omega
  have hcF : mc.flows ≠ [] := by rw [hmc]; exact level_flow _ 3
  obtain ⟨call, hcall⟩ : ∃ x, x = gcallF (gchorF q ⟨#[100]⟩ ⟨#[120]⟩) P q := ⟨_, rfl⟩
  obtain ⟨c, hc⟩ : ∃ c : ChorD, c = ⟨⟨#[99]⟩, P, mc.flows ++ my.flows, mc.items ++ [call, gsubF my], gseqsF mc.seqs⟩ := ⟨_, rfl⟩
  obtain ⟨x, hx⟩ : ∃ x : ChorD, x = ⟨⟨#[100]⟩, mx.parts, mx.flows, mx.items, mx.seqs⟩ := ⟨_, rfl⟩
  have hd : gnestedF p q = ⟨gmsgsF, [c, x]⟩ := by rw [hc, hx, hcall, hmy, hP, hmx, hmc]; rfl
  have hadds := nested_adds p q hp hq
  have hnames := nested_names p q hp hq
  have hnodup := nested_nodup p q hp hq
  have hids : idsD (gnestedF p q) = gmsgsF.map (·.id) ++ (idsC c ++ idsC x) := by
    rw [hd]
    unfold idsD idsCs
    simp
  rw [hids] at hnodup
  have hcn : (idsC c).Nodup := hnodup.sublist (sub_mid (List.Sublist.refl _))
  have hsI : (c.items.map (·.id)).Sublist (idsL c.items) := by
    have h : ∀ l : List ItemD, (l.map (·.id)).Sublist (idsL l) := by
      intro l
      induction l with
      | nil => exact List.nil_sublist _
      | cons y l ih =>
        rw [idsL, idsI_eq, List.map_cons, List.cons_append]
        exact List.Sublist.cons_cons _ (ih.trans (List.sublist_append_right _ _))
    exact h _
  have e0 : idsC c = [c.id] ++ (c.parts.map (·.id) ++ (c.flows.map (·.id) ++ (idsL c.items ++ c.seqs.map (·.id)))) := rfl
  rw [e0] at hcn
  have e1 : c.items = mc.items ++ [call, gsubF my] := by rw [hc]
  have e2 : c.flows = mc.flows ++ my.flows := by rw [hc]
  have e3 : c.parts = P := by rw [hc]
  have e4 : c.seqs = gseqsF mc.seqs := by rw [hc]
  have hcallid : call.id = gcallS := by rw [hcall]; rfl
  have hsubid : (gsubF my).id = gsubS := rfl
  have hP2 : ∀ y ∈ mc.parts, y ∈ P := fun y hy => by rw [hP]; exact more_mem hy
  have hinI : ∀ a, HasI mc a → ∃ y ∈ c.items, y.id = a := fun a h => by
    obtain ⟨y, hy, e⟩ := h
    exact ⟨y, by rw [e1]; exact List.mem_append_left _ hy, e⟩
  have hinC : ∃ y ∈ c.items, y.id = gcallS := ⟨call, by rw [e1]; simp, hcallid⟩
  have hinS : ∃ y ∈ c.items, y.id = gsubS := ⟨gsubF my, by rw [e1]; simp, hsubid⟩
  refine ⟨c, x, hd, by rw [hc], by rw [hx], hadds, ⟨fun a ha => by have := (hnames.1 a ha).2; omega, by have := hnames.2; simp; omega⟩, fun a ha => (hnames.1 a ha).1, ?_, ?_, ?_, ?_, ?_, ?_, ?_⟩
  · unfold refsF
    rw [hd]
    rw [List.all_cons, List.all_cons, List.all_nil, Bool.and_true, Bool.and_eq_true]
    constructor
    · unfold okC
      rw [Bool.and_eq_true, Bool.and_eq_true]
      refine ⟨?_, ?_, ?_⟩
      · rw [flows_of (fun f hf => ?_)]
        · rfl
        · rw [e2] at hf
          rw [e3]
          rcases List.mem_append.1 hf with hf | hf
          · obtain ⟨⟨a, ha, ea⟩, ⟨b, hb, eb⟩, h3⟩ := rc.flows f hf
            exact ⟨⟨a, hP2 a ha, ea⟩, ⟨b, hP2 b hb, eb⟩, h3⟩
          · have := ry.flows f hf
            rw [hyP] at this
            exact this
      · rw [okL_all]
        intro y hy
        rw [e1] at hy
        rcases List.mem_append.1 hy with hy | hy
        · exact okI_plain (pc.items y hy) (fun h3 => (rc.tasks y hy h3).mono (fun z hz => by rw [e3]; exact hP2 z hz) (fun z hz => by rw [e2]; exact List.mem_append_left _ hz))
        · simp only [List.mem_cons, List.not_mem_nil, or_false] at hy
          rcases hy with rfl | rfl
          · rw [okI_eq, hcall]
            show (if (8 : Int) = 3 then _ else if (8 : Int) = 8 then okCall _ c ⟨#[100]⟩ _ else _) = true
            rw [if_neg (by decide), if_pos rfl]
            have hch : chorAt ⟨gmsgsF, [c, x]⟩ ⟨#[100]⟩ = 1 := by
              unfold chorAt
              show (if eqS c.id ⟨#[100]⟩ = true then ((0 : Nat) : Int) else if eqS x.id ⟨#[100]⟩ = true then ((1 : Nat) : Int) else -1) = 1
              rw [show c.id = ⟨#[99]⟩ by rw [hc], show x.id = ⟨#[100]⟩ by rw [hx], if_neg (by decide +kernel), if_pos (by decide +kernel)]
              rfl
            unfold okCall
            rw [hch]
            show (true && !(List.any _ (badMap x c))) = true
            rw [Bool.true_and, Bool.not_eq_true', List.any_eq_false]
            intro mp hmp
            obtain ⟨i, hi, rfl⟩ := List.mem_map.1 hmp
            have hi' : i < mx.parts.length := by rw [hmx]; exact List.mem_range.1 hi
            have hin1 : ∃ y ∈ x.parts, y.id = ((gchorF q ⟨#[100]⟩ ⟨#[120]⟩).parts.getD i ⟨⟨#[]⟩, ⟨#[]⟩⟩).id := by
              rw [show (gchorF q ⟨#[100]⟩ ⟨#[120]⟩).parts = mx.parts by rw [hmx]; rfl, List.getD_eq_getElem?_getD, List.getElem?_eq_getElem hi', hx]
              exact ⟨_, List.getElem_mem hi', rfl⟩
            have hlt : (i + pickF q 1) % P.length < P.length := Nat.mod_lt _ (by omega)
            have hin2 : ∃ y ∈ c.parts, y.id = (P.getD ((i + pickF q 1) % P.length) ⟨⟨#[]⟩, ⟨#[]⟩⟩).id := by
              rw [List.getD_eq_getElem?_getD, List.getElem?_eq_getElem hlt, e3]
              exact ⟨_, List.getElem_mem hlt, rfl⟩
            have a1 := partAt_ge hin1
            have a2 := partAt_ge hin2
            unfold badMap
            simp only [Bool.or_eq_true, decide_eq_true_eq, not_or, Int.not_lt]
            exact ⟨a1, a2⟩
          · rw [okI_eq]
            show (if (7 : Int) = 3 then _ else if (7 : Int) = 8 then _ else if (7 : Int) = 7 then okL _ c my.items && okSeqs my.items my.seqs else _) = true
            rw [if_neg (by decide), if_neg (by decide), if_pos rfl, Bool.and_eq_true]
            constructor
            · rw [okL_all]
              intro y hy
              exact okI_plain (py.items y hy) (fun h3 => (ry.tasks y hy h3).mono (fun z hz => by rw [e3, ← hyP]; exact hz) (fun z hz => by rw [e2]; exact List.mem_append_right _ hz))
            · exact okSeqs_of (fun s hs => ry.seqs s hs)
      · refine okSeqs_of (fun s hs => ?_)
        rw [e4] at hs
        have hne : mc.seqs ≠ [] := fun e => by have := lc.2.2.2.2; rw [e] at this; simp at this
        have hlast : mc.seqs.getLastD ⟨⟨#[]⟩, ⟨#[]⟩, ⟨#[]⟩⟩ ∈ mc.seqs := by
          rw [List.getLastD_eq_getLast?, List.getLast?_eq_some_getLast hne]
          exact List.getLast_mem hne
        unfold gseqsF at hs
        rcases List.mem_append.1 hs with hs | hs
        · have := rc.seqs s (List.dropLast_subset _ hs)
          exact ⟨hinI _ this.1, hinI _ this.2⟩
        · simp only [List.mem_cons, List.not_mem_nil, or_false] at hs
          have hl := rc.seqs _ hlast
          rcases hs with rfl | rfl | rfl
          · exact ⟨hinI _ hl.1, hinC⟩
          · exact ⟨hinC, hinS⟩
          · exact ⟨hinS, hinI _ hl.2⟩
    · unfold okC
      rw [hx, Bool.and_eq_true, Bool.and_eq_true]
      refine ⟨?_, ?_, ?_⟩
      · rw [flows_of (fun f hf => rx.flows f hf)]
        rfl
      · rw [okL_all]
        intro y hy
        exact okI_plain (px.items y hy) (fun h3 => rx.tasks y hy h3)
      · exact okSeqs_of (fun s hs => rx.seqs s hs)
  · exact hcn.sublist (hsI.trans ((List.sublist_append_left (idsL c.items) (c.seqs.map (·.id))).trans ((List.sublist_append_right (c.flows.map (·.id)) _).trans ((List.sublist_append_right (c.parts.map (·.id)) _).trans (List.sublist_append_right [c.id] _)))))
  · exact hcn.sublist (sub_mid (List.Sublist.refl _))
  · exact hcn.sublist ((sub_mid (a := c.parts.map (·.id)) (d := idsL c.items ++ c.seqs.map (·.id)) (List.Sublist.refl (c.flows.map (·.id)))).trans (List.sublist_append_right _ _))
  · rw [e1]; simp; omega
  · rw [e3]; omega
  · rw [e2]
    have : 0 < mc.flows.length := List.length_pos_iff.2 hcF
    simp; omega
end Go.Proofs.Ytljmghaplnkohaa
