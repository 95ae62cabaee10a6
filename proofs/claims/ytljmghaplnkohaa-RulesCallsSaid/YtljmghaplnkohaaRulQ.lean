/- Plain law: nested documents keep to the rules. -/
import Derived.Test.YtljmghaplnkohaaRulLaw
import Derived.Test.YtljmghaplnkohaaIdsT
namespace Go.Proofs.Ytljmghaplnkohaa
open Go.RowKit

theorem map_good {d : DocD} {x : ChorD} {call : ItemD} {P : List PartD} {pk : Nat} (hx : (x.parts.map (·.id)).Nodup) (hP : (P.map (·.id)).Nodup) (hle : x.parts.length ≤ P.length) (hch : chorAt d ⟨#[100]⟩ = 1) (hd : d.chors.getD 1 noChor = x) (hc : call.called = ⟨#[100]⟩)
    (hm : call.maps = (List.range x.parts.length).map (fun i => ⟨(x.parts.getD i ⟨⟨#[]⟩, ⟨#[]⟩⟩).id, (P.getD ((i + pk) % P.length) ⟨⟨#[]⟩, ⟨#[]⟩⟩).id⟩)) : mappedF d call = true := by
  unfold mappedF
  rw [hc, hch]
  show (true && (decide (call.maps.length = (d.chors.getD 1 noChor).parts.length) && noTw [] call.maps)) = true
  rw [hd, Bool.true_and, Bool.and_eq_true, decide_eq_true_eq]
  refine ⟨by rw [hm]; simp, noTw_ok [] _ ?_⟩
  rw [List.nil_append, hm]
  have inj : ∀ {l : List PartD}, (l.map (·.id)).Nodup → ∀ {i j : Nat}, i < l.length → j < l.length → i ≠ j → (l.getD i ⟨⟨#[]⟩, ⟨#[]⟩⟩).id ≠ (l.getD j ⟨⟨#[]⟩, ⟨#[]⟩⟩).id := fun {l} hn {i j} hi hj h => by
    rw [List.getD_eq_getElem?_getD, List.getD_eq_getElem?_getD, List.getElem?_eq_getElem hi, List.getElem?_eq_getElem hj]
    intro e
    have h1 := find_at (fun x : PartD => x.id) 0 hi hn
    have h2 := find_at (fun x : PartD => x.id) 0 hj hn
    have e2 : l[i].id = l[j].id := e
    simp only [e2] at h1
    rw [h1] at h2
    omega
  refine List.pairwise_map.2 (List.Pairwise.imp_of_mem (fun {i j} hi hj hlt => ?_) List.pairwise_lt_range)
  have h1 := List.mem_range.1 hi
  have h2 := List.mem_range.1 hj
  unfold mapTw
  rw [eqS_ne (inj hx h1 h2 (by omega)), eqS_ne (inj hP (Nat.mod_lt _ (by omega)) (Nat.mod_lt _ (by omega)) (mod_inj hle h1 h2 hlt))]
  rfl
/-- What the laws of layer 10 ask of a nested document. -/
structure NestW (d : DocD) (c x : ChorD) (l : List ItemD) (call sub : ItemD) : Prop where
  nest : NestI d c x
  items : c.items = l ++ [call, sub]
  plain : ∀ y ∈ l, PlainI y
  callK : call.kind = 8
  callC : call.called = ⟨#[100]⟩
  callI : call.id = gcallS
  callN : call.items = [] ∧ call.seqs = []
  subK : sub.kind = 7
  subP : ∀ y ∈ sub.items, PlainI y
  subW : LevelW d c sub.items sub.seqs
  subL : sub.items.length ≤ 1000 ∧ sub.seqs.length ≤ 1000
  lev : LevelW d c c.items c.seqs
  xP : ∀ y ∈ x.items, PlainI y
  xlev : LevelW d x x.items x.seqs
  lens : c.items.length ≤ 1000 ∧ c.seqs.length ≤ 1000 ∧ x.items.length ≤ 1000 ∧ x.seqs.length ≤ 1000
  xtwo : 2 ≤ x.parts.length ∧ x.parts.length ≤ 4
  maps : ∃ pk, call.maps = (List.range x.parts.length).map (fun i => ⟨(x.parts.getD i ⟨⟨#[]⟩, ⟨#[]⟩⟩).id, (c.parts.getD ((i + pk) % c.parts.length) ⟨⟨#[]⟩, ⟨#[]⟩⟩).id⟩)
theorem nest_w (p q : List Int) (hp : p.length ≤ maxLen) (hq : q.length ≤ maxLen) : ∃ d c x l call sub, d = gnestedF p q ∧ NestW d c x l call sub := by
  obtain ⟨c0, x0, hN⟩ := nest_i p q hp hq
  obtain ⟨mc, hmc⟩ : ∃ m, m = gmakeF p ⟨#[]⟩ := ⟨_, rfl⟩
  obtain ⟨mx, hmx⟩ : ∃ m, m = gmakeF q ⟨#[120]⟩ := ⟨_, rfl⟩
  have hfc := gchor_facts p hp ⟨#[99]⟩ ⟨#[]⟩ (by decide)
  have lc : mc.parts.length ≤ 4 ∧ mc.flows.length ≤ 108 ∧ mc.items.length ≤ 108 ∧ mc.seqs.length ≤ 108 ∧ 1 ≤ mc.seqs.length := by rw [hmc]; exact hfc.2
  have hfx := gchor_facts q hq ⟨#[100]⟩ ⟨#[120]⟩ (by decide)
  have lx : 2 ≤ mx.parts.length ∧ mx.parts.length ≤ 4 ∧ mx.flows.length ≤ 108 ∧ mx.items.length ≤ 108 ∧ mx.seqs.length ≤ 108 := by rw [hmx]; exact ⟨hfx.1, hfx.2.1, hfx.2.2.1, hfx.2.2.2.1, hfx.2.2.2.2.1⟩
  obtain ⟨P, hP⟩ : ∃ P, P = gmoreF mx.parts.length mc.parts := ⟨_, rfl⟩
  obtain ⟨my, hmy⟩ : ∃ m, m = ginF q P := ⟨_, rfl⟩
  have pc : PlainM mc := by rw [hmc]; exact plain_chor p ⟨#[]⟩ (by decide)
  have px : PlainM mx := by rw [hmx]; exact plain_chor q ⟨#[120]⟩ (by decide)
  have py : PlainM my := by rw [hmy]; exact plain_in q _
  obtain ⟨call, hcall⟩ : ∃ x, x = gcallF (gchorF q ⟨#[100]⟩ ⟨#[120]⟩) P q := ⟨_, rfl⟩
  obtain ⟨c, hc⟩ : ∃ c : ChorD, c = ⟨⟨#[99]⟩, P, mc.flows ++ my.flows, mc.items ++ [call, gsubF my], gseqsF mc.seqs⟩ := ⟨_, rfl⟩
  obtain ⟨x, hx⟩ : ∃ x : ChorD, x = ⟨⟨#[100]⟩, mx.parts, mx.flows, mx.items, mx.seqs⟩ := ⟨_, rfl⟩
  obtain ⟨d, hdd⟩ : ∃ d, d = gnestedF p q := ⟨_, rfl⟩
  have hd : d = ⟨gmsgsF, [c, x]⟩ := by rw [hdd, hc, hx, hcall, hmy, hP, hmx, hmc]; rfl
  rw [← hdd] at hN
  have he := hN.eq
  rw [hd] at he
  injection he with _ he
  injection he with h1 he
  injection he with h2 _
  subst h1
  subst h2
  have e1 : c.items = mc.items ++ [call, gsubF my] := by rw [hc]
  have e2 : c.flows = mc.flows ++ my.flows := by rw [hc]
  have e3 : c.parts = P := by rw [hc]
  have e4 : c.seqs = gseqsF mc.seqs := by rw [hc]
  have e5 : x.parts = mx.parts := by rw [hx]
  have hPl : 2 ≤ P.length ∧ mx.parts.length ≤ P.length := by
    have := hfc.1
    have h2 : 2 ≤ mc.parts.length := by rw [hmc]; exact this
    rw [hP]; unfold gmoreF; simp; omega
  have hPn : (P.map (·.id)).Nodup := by rw [← e3]; exact hN.nP
  have hxn : (mx.parts.map (·.id)).Nodup := by
    rw [hmx]
    have hg := grow_levelI (gbeginF q (2 + pickF q 0 % 16 % 3) ⟨#[120]⟩) 3
    have : (gmakeF q ⟨#[120]⟩).parts = (gbeginF q (2 + pickF q 0 % 16 % 3) ⟨#[120]⟩).parts := hg.parts
    rw [this]; exact (begin_task q ⟨#[120]⟩).pids
  -- the one within
  have hyn : my.n ≤ 25 := by rw [hmy]; exact (key_in q P).2.1
  have tyM : TaskM (⟨q, 5, 0, P, [], [], [], ⟨#[121]⟩⟩ : MkD) := ⟨hPl.1, hPn, fun _ h => by cases h⟩
  have ty : ∀ y ∈ my.items, y.kind = 3 → ∃ a b f, TaskS my.flows y a b f := fun y hy h3 => by
    have hb := taskM_body tyM 1
    have hi : my.items = (gbodyF (⟨q, 5, 0, P, [], [], [], ⟨#[121]⟩⟩ : MkD) 1).2.items ++ [lastE ⟨q, 5, 0, P, [], [], [], ⟨#[121]⟩⟩ 1] := by rw [hmy]; exact level_items ⟨q, 5, 0, P, [], [], [], ⟨#[121]⟩⟩ 1
    rw [hi] at hy
    have hf : my.flows = (gbodyF ⟨q, 5, 0, P, [], [], [], ⟨#[121]⟩⟩ 1).2.flows := by rw [hmy]; unfold ginF; rw [glevel_eq]; rfl
    rw [hf]
    rcases List.mem_append.1 hy with hy | hy
    · exact hb.tasks y hy h3
    · rw [List.mem_singleton.1 hy] at h3; exact absurd (show (2 : Int) = 3 from h3) (by decide)
  have hsubW : LevelW d c my.items my.seqs := by
    have h := plain_levelW (⟨q, 5, 0, P, [], [], [], ⟨#[121]⟩⟩ : MkD) 1 rfl rfl (by have : (ginF q P).n ≤ 25 := by rw [← hmy]; exact hyn
                                                                                    exact Nat.le_trans this (by omega)) (d := d) (c := c)
    rw [hmy]
    refine h (fun y hy => ?_)
    have hy' : y ∈ my.items := by rw [hmy]; exact hy
    refine good_plain (py.items y hy') (fun h3 => ?_) hN.nF
    obtain ⟨a, b, f, ht⟩ := ty y hy' h3
    exact ⟨a, b, f, ht.more (fun z hz => by rw [e2]; exact List.mem_append_right _ hz)⟩
  -- the outer one
  obtain ⟨m0, hm0⟩ : ∃ m, m = gbeginF p (2 + pickF p 0 % 16 % 3) ⟨#[]⟩ := ⟨_, rfl⟩
  have hml : mc = glevelF m0 3 := by rw [hmc, hm0]; rfl
  have hmn : mc.n ≤ 109 := by rw [hmc]; exact (key_make p ⟨#[]⟩ low_nil).2.1
  have hbn := level_n m0 3
  rw [← hml] at hbn
  obtain ⟨mid, hb, _⟩ := body_graph m0 3 (by rw [hm0]; rfl) (by rw [hm0]; rfl) (by omega)
  have li := level_items m0 3
  have ls := level_seqs m0 3
  rw [← hml] at li ls
  have sl : gseqsF mc.seqs = (gbodyF m0 3).2.seqs ++ [⟨(lastQ m0 3).id, (gbodyF m0 3).1, gcallS⟩, ⟨⟨#[115, 113, 49]⟩, gcallS, gsubS⟩, ⟨⟨#[115, 113, 50]⟩, gsubS, (lastE m0 3).id⟩] := by
    unfold gseqsF glastTo
    rw [ls, List.dropLast_concat, List.getLastD_concat]
    rfl
  have hci : call.id = gcallS := by rw [hcall]; rfl
  have hsi : (gsubF my).id = gsubS := rfl
  have hII : ((gbodyF m0 3).2.items ++ [lastE m0 3, call, gsubF my]).map (·.id) = c.items.map (·.id) := by rw [e1, li]; simp
  have hXn : (((gbodyF m0 3).2.items ++ [lastE m0 3, call, gsubF my]).map (·.id)).Nodup := by rw [hII]; exact hN.nI
  have htI : ∃ y ∈ (gbodyF m0 3).2.items, y.id = (gbodyF m0 3).1 := by
    obtain ⟨y, hy, e⟩ := hb.ht
    exact ⟨y, by rw [hb.eq]; exact List.mem_cons_of_mem _ hy, e⟩
  have hXn2 := hXn
  rw [List.map_append] at hXn2
  obtain ⟨_, hx3, hdis⟩ := List.nodup_append.1 hXn2
  simp only [List.map_cons, List.map_nil, hci, hsi] at hx3 hdis
  have htd : ∀ a ∈ [(lastE m0 3).id, gcallS, gsubS], (gbodyF m0 3).1 ≠ a := fun a ha => by
    obtain ⟨y, hy, e⟩ := htI
    exact hdis _ (List.mem_map.2 ⟨y, hy, e⟩) a ha
  have n1 := htd (lastE m0 3).id (by simp)
  have n2 := htd gcallS (by simp)
  have n3 := htd gsubS (by simp)
  have n4 : (lastE m0 3).id ≠ gcallS := fun e => by rw [e] at hx3; simp at hx3
  have n5 : (lastE m0 3).id ≠ gsubS := fun e => by rw [e] at hx3; simp at hx3
  have n6 : gcallS ≠ gsubS := by decide +kernel
  have hgood : ∀ y ∈ (gbodyF m0 3).2.items ++ [lastE m0 3, call, gsubF my], GoodI d c y := fun y hy => by
    have hy' : y ∈ mc.items ++ [call, gsubF my] := by rw [li]; simpa using hy
    rcases List.mem_append.1 hy' with hy' | hy'
    · refine good_plain (pc.items y hy') (fun h3 => ?_) hN.nF
      rw [hmc] at hy'
      obtain ⟨a, b, f, ht⟩ := make_tasks p ⟨#[]⟩ y hy' h3
      exact ⟨a, b, f, ht.more (fun z hz => by rw [e2, hmc]; exact List.mem_append_left _ hz)⟩
    · simp only [List.mem_cons, List.not_mem_nil, or_false] at hy'
      rcases hy' with rfl | rfl
      · have hk : y.kind = 8 := by rw [hcall]; rfl
        refine ⟨fun e => by omega, fun e => by omega, fun _ => ?_, fun e => by omega⟩
        refine map_good (x := x) (P := P) (pk := pickF q 1) (by rw [e5]; exact hxn) hPn (by rw [e5]; exact hPl.2) ?_ (by rw [hd]; rfl) (by rw [hcall]; rfl) (by rw [hcall, e5, hmx]; rfl)
        rw [hd]
        unfold chorAt
        show findFrom (fun y : ChorD => eqS y.id ⟨#[100]⟩) [c, x] 0 = 1
        rw [findFrom, findFrom, hN.cid, hN.xid]
        decide +kernel
      · have hk : (gsubF my).kind = 7 := rfl
        exact ⟨fun e => by omega, fun e => by omega, fun e => by omega, fun _ => hsubW.ok true⟩
  obtain ⟨a1, a2, a3, a4, a5, a6, _⟩ := fin_level (d := d) (c := c) hb [lastE m0 3, call, gsubF my] [⟨(lastQ m0 3).id, (gbodyF m0 3).1, gcallS⟩, ⟨⟨#[115, 113, 49]⟩, gcallS, gsubS⟩, ⟨⟨#[115, 113, 50]⟩, gsubS, (lastE m0 3).id⟩] false hXn
    (fun z hz => by
      simp only [List.mem_cons, List.not_mem_nil, or_false] at hz
      rcases hz with rfl | rfl | rfl
      · exact ⟨n2, .inl rfl, call, by simp, hci⟩
      · exact ⟨n6, .inr ⟨call, by simp, hci⟩, gsubF my, by simp, hsi⟩
      · exact ⟨Ne.symm n5, .inr ⟨gsubF my, by simp, hsi⟩, lastE m0 3, by simp, rfl⟩)
    (by
      simp only [List.map_cons, List.map_nil]
      refine List.nodup_cons.2 ⟨?_, List.nodup_cons.2 ⟨?_, by simp⟩⟩
      · simp only [List.mem_cons, List.not_mem_nil, or_false, not_or]; exact ⟨n6, Ne.symm n4⟩
      · simp only [List.mem_cons, List.not_mem_nil, or_false]; exact Ne.symm n5)
    (by rw [out3]; simp [n2, n3])
    (fun z hz => by
      simp only [List.mem_cons, List.not_mem_nil, or_false] at hz
      have q1 : Path [⟨(lastQ m0 3).id, (gbodyF m0 3).1, gcallS⟩, ⟨⟨#[115, 113, 49]⟩, gcallS, gsubS⟩, (⟨⟨#[115, 113, 50]⟩, gsubS, (lastE m0 3).id⟩ : SeqD)] (gbodyF m0 3).1 gcallS := Path.step (⟨(lastQ m0 3).id, (gbodyF m0 3).1, gcallS⟩ : SeqD) .refl (by simp) rfl
      have q2 := Path.step (⟨⟨#[115, 113, 49]⟩, gcallS, gsubS⟩ : SeqD) q1 (by simp) rfl
      have q3 := Path.step (⟨⟨#[115, 113, 50]⟩, gsubS, (lastE m0 3).id⟩ : SeqD) q2 (by simp) rfl
      rcases hz with rfl | rfl | rfl
      · refine ⟨.inl ⟨rfl, ?_⟩, ?_, q3⟩
        · rw [out3]; simp [Ne.symm n1, n4, n5]
        · rw [in3]; simp [n4, n5]
      · rw [hci]
        refine ⟨.inr ⟨.inr (by rw [hcall]; rfl), ?_⟩, ?_, q1⟩
        · rw [out3]; simp [Ne.symm n2, n6]
        · rw [in3]; simp [n6, Ne.symm n4]
      · rw [hsi]
        refine ⟨.inr ⟨.inl rfl, ?_⟩, ?_, q2⟩
        · rw [out3]; simp [Ne.symm n3, Ne.symm n6]
        · rw [in3]; simp [Ne.symm n6, Ne.symm n5])
    (by rw [kindN_eq]; rw [List.filter_cons, if_pos (show ((lastE m0 3).kind == 2) = true from rfl), List.filter_cons, if_neg (fun e => by rw [hcall] at e; exact absurd (show ((8 : Int) == 2) = true from e) (by decide)), List.filter_cons, if_neg (show ¬ ((gsubF my).kind == 2) = true from fun e => absurd (show ((7 : Int) == 2) = true from e) (by decide))]; rfl) hgood
  have hIt : c.items = (gbodyF m0 3).2.items ++ [lastE m0 3, call, gsubF my] := by rw [e1, li]; simp
  have hSq : c.seqs = (gbodyF m0 3).2.seqs ++ [⟨(lastQ m0 3).id, (gbodyF m0 3).1, gcallS⟩, ⟨⟨#[115, 113, 49]⟩, gcallS, gsubS⟩, ⟨⟨#[115, 113, 50]⟩, gsubS, (lastE m0 3).id⟩] := by rw [e4, sl]
  have gm := grow_levelI ⟨q, 5, 0, P, [], [], [], ⟨#[121]⟩⟩ 1
  have hG : gG 1 = 19 := rfl
  have ly1 : my.items.length ≤ 0 + (gG 1 + 6) := by rw [hmy]; exact gm.items
  have ly2 : my.seqs.length ≤ 0 + (gG 1 + 6) := by rw [hmy]; exact gm.seqs
  rw [hG] at ly1 ly2
  refine ⟨d, c, x, mc.items, call, gsubF my, hdd, ⟨hN, e1, pc.items, by rw [hcall]; rfl, by rw [hcall]; rfl, hci, by rw [hcall]; exact ⟨rfl, rfl⟩, rfl, py.items, hsubW, ⟨by show my.items.length ≤ 1000; omega, by show my.seqs.length ≤ 1000; omega⟩, ?_, ?_, ?_, ?_, ?_, ?_⟩⟩
  · rw [hIt, hSq]
    exact ⟨a1, a2, a3, a4, a5, hgood, a6⟩
  · rw [hx]; exact px.items
  · have h := make_levelW q ⟨#[120]⟩ ⟨#[100]⟩ (by decide) low_x d
    rw [hx, hmx]
    exact h
  · refine ⟨?_, ?_, ?_, ?_⟩
    · rw [e1]; simp; omega
    · have : (gseqsF mc.seqs).length = mc.seqs.length + 2 := by unfold gseqsF; simp; omega
      rw [e4]; omega
    · rw [hx]; show mx.items.length ≤ 1000; omega
    · rw [hx]; show mx.seqs.length ≤ 1000; omega
  · rw [e5]; exact ⟨lx.1, lx.2.1⟩
  · exact ⟨pickF q 1, by rw [hcall, e5, e3, hmx]; rfl⟩
theorem nest_rules {d : DocD} {c x : ChorD} {l : List ItemD} {call sub : ItemD} (h : NestW d c x l call sub) : ckF d = (0, ⟨#[]⟩, 0) := by
  have hck : checkF d = 0 := by
    unfold checkF
    rw [h.nest.adds, h.nest.refs]
    rfl
  have hch : chorsF d d.chors = (0, ⟨#[]⟩) := by
    have hd : d.chors = [c, x] := by rw [h.nest.eq]
    rw [hd]
    have h1 : chorF d c = (0, ⟨#[]⟩) := h.lev.ok false
    have h2 : chorF d x = (0, ⟨#[]⟩) := h.xlev.ok false
    rw [chorsF, h1, if_neg (fun e => e rfl), chorsF, h2, if_neg (fun e => e rfl), chorsF]
  unfold ckF
  rw [hck, if_neg (fun e => e rfl), hch, if_neg (fun e => e rfl)]
end Go.Proofs.Ytljmghaplnkohaa
