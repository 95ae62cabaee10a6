/- Plain law: a nested document whose call tells of participants otherwise. -/
import Derived.Test.YtljmghaplnkohaaRulS
import Derived.Test.YtljmghaplnkohaaIdsYZ
namespace Go.Proofs.Ytljmghaplnkohaa
open Go.RowKit

theorem findFrom_map {α : Type} (f : α → ByteArray) (p : ByteArray) : ∀ (l m : List α) (k : Nat), l.map f = m.map f → findFrom (fun x => eqS (f x) p) l k = findFrom (fun x => eqS (f x) p) m k
  | [], [], _, _ => rfl
  | [], _ :: _, _, h => by cases h
  | _ :: _, [], _, h => by cases h
  | x :: l, y :: m, k, h => by
    rw [List.map_cons, List.map_cons] at h
    injection h with h1 h2
    rw [findFrom, findFrom, h1, findFrom_map f p l m (k + 1) h2]
/-- What is looked up in two documents is the same. -/
structure View (d' d : DocD) (c' c : ChorD) : Prop where
  parts : c'.parts = c.parts
  flows : c'.flows = c.flows
  msgs : d'.msgs = d.msgs
  chs : ∀ p, chorAt d' p = chorAt d p
  pts : ∀ n, (d'.chors.getD n noChor).parts = (d.chors.getD n noChor).parts
section
variable {d' d : DocD} {c' c : ChorD}
theorem View.part (h : View d' d c' c) (p : ByteArray) : partAt c' p = partAt c p := by unfold partAt; rw [h.parts]
theorem View.flow (h : View d' d c' c) (p : ByteArray) : flowAt c' p = flowAt c p := by unfold flowAt; rw [h.flows]
theorem View.map (h : View d' d c' c) (n : Nat) : badMap (d'.chors.getD n noChor) c' = badMap (d.chors.getD n noChor) c := by
  funext m
  unfold badMap
  rw [h.part]
  unfold partAt
  rw [h.pts]
theorem View.call (h : View d' d c' c) (called : ByteArray) (maps : List MapD) : okCall d' c' called maps = okCall d c called maps := by
  unfold okCall
  rw [h.chs, h.map]
theorem View.task (h : View d' d c' c) (first : ByteArray) (parts flows : List ByteArray) : okTask c' first parts flows = okTask c first parts flows := by
  have h1 : (fun p => decide (partAt c' p < 0)) = fun p => decide (partAt c p < 0) := by funext p; rw [h.part]
  have h2 : (fun p => decide (flowAt c' p < 0)) = fun p => decide (flowAt c p < 0) := by funext p; rw [h.flow]
  unfold okTask
  rw [h.part, h1, h2]
theorem View.bad (h : View d' d c' c) : badFlow d' c' = badFlow d c := by
  funext f
  unfold badFlow msgAt
  rw [h.part, h.part, h.msgs]
theorem View.flOk (h : View d' d c' c) (a b : ByteArray) : ∀ (l : List ByteArray) (n : Nat), flOk c' a b n l = Go.Proofs.Ytljmghaplnkohaa.flOk c a b n l
  | [], _ => by rw [Go.Proofs.Ytljmghaplnkohaa.flOk, Go.Proofs.Ytljmghaplnkohaa.flOk]
  | f :: r, n => by
    have hk : ∀ k, flowK c' k = flowK c k := fun k => by unfold flowK; rw [h.flows]
    rw [Go.Proofs.Ytljmghaplnkohaa.flOk, Go.Proofs.Ytljmghaplnkohaa.flOk, h.flow, hk, View.flOk h a b r (n + 1)]
theorem View.taskF (h : View d' d c' c) (x : ItemD) : taskF c' x = Go.Proofs.Ytljmghaplnkohaa.taskF c x := by
  unfold Go.Proofs.Ytljmghaplnkohaa.taskF
  rw [h.flOk]
mutual
theorem View.okI (h : View d' d c' c) : ∀ x : ItemD, okI d' c' x = Go.Proofs.Ytljmghaplnkohaa.okI d c x
  | ⟨kind, id, first, parts, flows, loop, called, maps, items, seqs⟩ => by
    rw [Go.Proofs.Ytljmghaplnkohaa.okI, Go.Proofs.Ytljmghaplnkohaa.okI, h.task, h.call, View.okL h items]
theorem View.okL (h : View d' d c' c) : ∀ l : List ItemD, okL d' c' l = Go.Proofs.Ytljmghaplnkohaa.okL d c l
  | [] => by rw [Go.Proofs.Ytljmghaplnkohaa.okL, Go.Proofs.Ytljmghaplnkohaa.okL]
  | x :: l => by rw [Go.Proofs.Ytljmghaplnkohaa.okL, Go.Proofs.Ytljmghaplnkohaa.okL, View.okI h x, View.okL h l]
end
end
section
variable {d : DocD} {c x : ChorD} {l : List ItemD} {call sub : ItemD}
/-- The choreography whose call tells otherwise. -/
def calC (c : ChorD) (l : List ItemD) (call sub : ItemD) (ms : List MapD) : ChorD := ⟨c.id, c.parts, c.flows, l ++ [setMaps call ms, sub], c.seqs⟩
theorem cal_view (h : NestW d c x l call sub) (ms : List MapD) : View ⟨gmsgsF, [calC c l call sub ms, x]⟩ d (calC c l call sub ms) c ∧ View ⟨gmsgsF, [calC c l call sub ms, x]⟩ d x x := by
  have hch : ∀ p, chorAt ⟨gmsgsF, [calC c l call sub ms, x]⟩ p = chorAt d p := fun p => by
    rw [h.nest.eq]
    exact findFrom_map (fun y : ChorD => y.id) p [calC c l call sub ms, x] [c, x] 0 rfl
  have hpt : ∀ n, ((⟨gmsgsF, [calC c l call sub ms, x]⟩ : DocD).chors.getD n noChor).parts = (d.chors.getD n noChor).parts := fun n => by
    rw [h.nest.eq]
    match n with
    | 0 => rfl
    | 1 => rfl
    | _ + 2 => rfl
  have hm : gmsgsF = d.msgs := by rw [h.nest.eq]
  exact ⟨⟨rfl, rfl, hm, hch, hpt⟩, ⟨rfl, rfl, hm, hch, hpt⟩⟩
theorem cal_ids (h : NestW d c x l call sub) (ms : List MapD) : idsD ⟨gmsgsF, [calC c l call sub ms, x]⟩ = idsD d := by
  have hi : idsL (calC c l call sub ms).items = idsL c.items := by
    rw [h.items]
    show idsL (l ++ [setMaps call ms, sub]) = idsL (l ++ [call, sub])
    have e : idsL [setMaps call ms, sub] = idsL [call, sub] := by
      show idsI (setMaps call ms) ++ (idsI sub ++ []) = idsI call ++ (idsI sub ++ [])
      rw [idsI_eq, idsI_eq call]
      rfl
    rw [idsL_append, idsL_append, e]
  have ec : idsC (calC c l call sub ms) = idsC c := by unfold idsC; rw [hi]; rfl
  rw [h.nest.eq]
  show gmsgsF.map (·.id) ++ (idsC (calC c l call sub ms) ++ (idsC x ++ [])) = gmsgsF.map (·.id) ++ (idsC c ++ (idsC x ++ []))
  rw [ec]
/-- Who is told of is there. -/
def Told (call : ItemD) (ms : List MapD) : Prop := ∀ m ∈ ms, (∃ a ∈ call.maps, a.inner = m.inner) ∧ ∃ b ∈ call.maps, b.outer = m.outer
theorem cal_check (h : NestW d c x l call sub) {ms : List MapD} (ht : Told call ms) : checkF ⟨gmsgsF, [calC c l call sub ms, x]⟩ = 0 := by
  obtain ⟨v1, v2⟩ := cal_view h ms
  have hd : d.chors = [c, x] := by rw [h.nest.eq]
  have hr := h.nest.refs
  unfold refsF at hr
  rw [hd, List.all_cons, List.all_cons, List.all_nil, Bool.and_true, Bool.and_eq_true] at hr
  obtain ⟨r1, r2⟩ := hr
  have e2 : okC ⟨gmsgsF, [calC c l call sub ms, x]⟩ x = okC d x := by
    unfold okC
    rw [v2.bad, v2.okL]
  have hcall : okI d c call = true := by
    unfold okC at r1
    rw [Bool.and_eq_true, Bool.and_eq_true] at r1
    exact (okL_all d c).1 r1.2.1 call (by rw [h.items]; simp)
  have hy : okI d c (setMaps call ms) = true := by
    rw [okI_eq, h.callK, if_neg (by decide), if_pos rfl] at hcall
    rw [okI_eq]
    show (if call.kind = 3 then _ else if call.kind = 8 then okCall d c call.called ms else _) = true
    rw [h.callK, if_neg (by decide), if_pos rfl]
    unfold okCall at hcall ⊢
    rw [Bool.and_eq_true] at hcall ⊢
    refine ⟨hcall.1, ?_⟩
    rw [Bool.not_eq_true', List.any_eq_false]
    have hb := List.any_eq_false.1 (by have h2 := hcall.2; rwa [Bool.not_eq_true'] at h2)
    intro m hm
    obtain ⟨⟨a, ha, ea⟩, ⟨b, hb2, eb⟩⟩ := ht m hm
    have ba := hb a ha
    have bb := hb b hb2
    unfold badMap at ba bb ⊢
    rw [Bool.or_eq_true, decide_eq_true_eq, decide_eq_true_eq] at ba bb ⊢
    rw [← ea, ← eb]
    intro hh
    rcases hh with hh | hh
    · exact ba (.inl hh)
    · exact bb (.inr hh)
  have e1 : okC ⟨gmsgsF, [calC c l call sub ms, x]⟩ (calC c l call sub ms) = true := by
    unfold okC at r1 ⊢
    rw [v1.bad, v1.okL]
    rw [Bool.and_eq_true, Bool.and_eq_true] at r1 ⊢
    refine ⟨r1.1, (okL_all d c).2 (fun z hz => ?_), ?_⟩
    · have hz' : z ∈ l ++ [setMaps call ms, sub] := hz
      rcases List.mem_append.1 hz' with hz | hz
      · exact (okL_all d c).1 r1.2.1 z (by rw [h.items]; exact List.mem_append_left _ hz)
      · simp only [List.mem_cons, List.not_mem_nil, or_false] at hz
        rcases hz with rfl | rfl
        · exact hy
        · exact (okL_all d c).1 r1.2.1 z (by rw [h.items]; simp)
    · have hb : badSeq (calC c l call sub ms).items = badSeq c.items := by
        funext q
        have hi : ∀ p, itemAt (calC c l call sub ms).items p = itemAt c.items p := fun p => findFrom_map (fun y : ItemD => y.id) p _ _ 0 (by
          rw [h.items]
          show (l ++ [setMaps call ms, sub]).map (·.id) = (l ++ [call, sub]).map (·.id)
          rw [List.map_append, List.map_append]
          rfl)
        unfold badSeq
        rw [hi, hi]
      have h2 := r1.2.2
      unfold okSeqs at h2 ⊢
      rw [hb]
      exact h2
  have hrr : refsF ⟨gmsgsF, [calC c l call sub ms, x]⟩ = true := by
    unfold refsF
    rw [List.all_cons, List.all_cons, List.all_nil, e1, e2, r2]
    rfl
  unfold checkF
  rw [cal_ids h, h.nest.adds, if_pos rfl, if_pos hrr]
theorem rulL_cut {d : DocD} {c : ChorD} {L : List ItemD} {S : List SeqD} {x : ItemD} {r : Int} {id : ByteArray} (hr : r ≠ 0) (hx : rulI d c L S x = (r, id)) (post : List ItemD) : ∀ {pre : List ItemD}, (∀ y ∈ pre, rulI d c L S y = (0, ⟨#[]⟩)) → rulL d c L S (pre ++ x :: post) = (r, id)
  | [], _ => by rw [List.nil_append, rulL, hx, if_pos hr]
  | y :: pre, h => by
    rw [List.cons_append, rulL, h y (List.mem_cons_self ..), if_neg (fun e => e rfl)]
    exact rulL_cut hr hx post (fun z hz => h z (List.mem_cons_of_mem _ hz))
theorem cal_bad (h : NestW d c x l call sub) {ms : List MapD} (ht : Told call ms) (hb : ms.length ≠ x.parts.length ∨ noTw [] ms = false) : ckF ⟨gmsgsF, [calC c l call sub ms, x]⟩ = (9, gcallS, 9) := by
  obtain ⟨v1, _⟩ := cal_view h ms
  have hk : ∀ k, kindN (calC c l call sub ms).items k = kindN c.items k := fun k => by
    rw [h.items]
    show kindN (l ++ [setMaps call ms, sub]) k = kindN (l ++ [call, sub]) k
    rw [kindN_eq, kindN_eq, List.filter_append, List.filter_append, List.length_append, List.length_append, List.filter_cons, List.filter_cons (x := call), show (setMaps call ms).kind = call.kind from rfl]
    by_cases hq : (call.kind == k) = true
    · rw [if_pos hq, if_pos hq, List.length_cons, List.length_cons]
    · rw [if_neg hq, if_neg hq]
  have hmap : mappedF ⟨gmsgsF, [calC c l call sub ms, x]⟩ (setMaps call ms) = false := by
    unfold mappedF
    have hc1 : chorAt ⟨gmsgsF, [calC c l call sub ms, x]⟩ (setMaps call ms).called = 1 := by
      rw [show (setMaps call ms).called = call.called from rfl, h.callC]
      unfold chorAt
      show findFrom (fun y : ChorD => eqS y.id ⟨#[100]⟩) [calC c l call sub ms, x] 0 = 1
      rw [findFrom, findFrom, show (calC c l call sub ms).id = ⟨#[99]⟩ from h.nest.cid, h.nest.xid]
      decide +kernel
    rw [hc1]
    show (true && (decide (ms.length = x.parts.length) && noTw [] ms)) = false
    rcases hb with hb | hb
    · rw [decide_eq_false hb]; rfl
    · rw [hb, Bool.and_false, Bool.and_false]
  have hrc : rulI ⟨gmsgsF, [calC c l call sub ms, x]⟩ (calC c l call sub ms) (calC c l call sub ms).items c.seqs (setMaps call ms) = (9, gcallS) := by
    have hdeg : degF c.seqs (setMaps call ms).kind (setMaps call ms).id = 0 := h.lev.deg call (by rw [h.items]; simp)
    have hi : itemF ⟨gmsgsF, [calC c l call sub ms, x]⟩ (calC c l call sub ms) (calC c l call sub ms).items c.seqs (setMaps call ms) = 9 := by
      unfold itemF
      rw [if_neg (fun e => e hdeg), hmap, show (setMaps call ms).kind = 8 from h.callK]
      rfl
    rw [rulI_eq, hi, if_pos (by decide), show (setMaps call ms).id = gcallS from h.callI]
  have hl : rulL ⟨gmsgsF, [calC c l call sub ms, x]⟩ (calC c l call sub ms) (calC c l call sub ms).items c.seqs (l ++ setMaps call ms :: [sub]) = (9, gcallS) :=
    rulL_cut (by decide) hrc [sub] (fun y hy => by
      have hp := (h.plain y hy).kind
      have hm : y ∈ c.items := by rw [h.items]; exact List.mem_append_left _ hy
      refine rulI_ok (h.lev.deg y hm) ⟨fun e => by omega, fun h3 => ?_, fun e => by omega, fun e => by omega⟩
      rw [v1.taskF]
      exact (h.lev.good y hm).2.1 h3)
  have hch : chorF ⟨gmsgsF, [calC c l call sub ms, x]⟩ (calC c l call sub ms) = (9, gcallS) := by
    show levelF _ _ (calC c l call sub ms).items c.seqs false = (9, gcallS)
    rw [levelF_on ((hk 1).trans h.lev.k1) (by unfold endB; rw [(hk 2).trans h.lev.k2]; rfl), seqBad_ok [] c.seqs h.lev.self (by simpa using h.lev.pair), if_neg (fun e => e rfl), if_pos]
    · exact hl
    · rw [show rulL ⟨gmsgsF, [calC c l call sub ms, x]⟩ (calC c l call sub ms) (calC c l call sub ms).items c.seqs (calC c l call sub ms).items = (9, gcallS) from hl]
      decide
  unfold ckF
  rw [cal_check h ht, if_neg (fun e => e rfl)]
  have hcs : chorsF ⟨gmsgsF, [calC c l call sub ms, x]⟩ [calC c l call sub ms, x] = (9, gcallS) := by
    rw [chorsF, hch, if_pos (by decide)]
  show (if (chorsF ⟨gmsgsF, [calC c l call sub ms, x]⟩ [calC c l call sub ms, x]).1 ≠ 0 then _ else _) = _
  rw [hcs, if_pos (by decide)]
theorem setMaps_self (y : ItemD) : setMaps y y.maps = y := by
  cases y
  rfl
theorem cal_same (h : NestW d c x l call sub) : (⟨gmsgsF, [calC c l call sub call.maps, x]⟩ : DocD) = d := by
  rw [h.nest.eq]
  have : calC c l call sub call.maps = c := by
    unfold calC
    rw [setMaps_self, ← h.items]
  rw [this]
theorem cal_lv (h : NestW d c x l call sub) (ms : List MapD) {A1 B1 : Option Addr} {c1 k1 : Nat} : ∀ z ∈ (⟨gmsgsF, [calC c l call sub ms, x]⟩ : DocD).chors, ∀ AP cP AF cF AI cI AS cS, LvOk ⟨gmsgsF, [calC c l call sub ms, x]⟩ z A1 B1 c1 k1 AP cP AF cF AI cI AS cS z.items z.seqs := fun z hz AP cP AF cF AI cI AS cS => by
  obtain ⟨l1, l2, l3, l4⟩ := h.lens
  have l5 : c.items.length = l.length + 2 := by rw [h.items]; simp
  simp only [List.mem_cons, List.not_mem_nil, or_false] at hz
  rcases hz with rfl | rfl
  · refine level_step _ _ (show (l ++ [setMaps call ms, sub]).length ≤ 100000 by simp; omega) (show c.seqs.length ≤ 100000 by omega) (fun y hy e => ?_)
    have hy' : y ∈ l ++ [setMaps call ms, sub] := hy
    rcases List.mem_append.1 hy' with hy | hy
    · have := (h.plain y hy).kind; omega
    · simp only [List.mem_cons, List.not_mem_nil, or_false] at hy
      rcases hy with rfl | rfl
      · have e2 : call.kind = 7 := e
        have := h.callK; omega
      · obtain ⟨a, b⟩ := h.subL
        exact rulI_lv h.subP (by omega) (by omega)
  · exact rulI_lv h.xP (by omega) (by omega)
/-- The cases of the law. -/
theorem cal_maps (h : NestW d c x l call sub) : ∃ m0 m1 r, call.maps = m0 :: m1 :: r ∧ r.length ≤ 2 ∧
    ckF ⟨gmsgsF, [calC c l call sub (m1 :: r), x]⟩ = (9, gcallS, 9) ∧ ckF ⟨gmsgsF, [calC c l call sub (m0 :: ⟨m0.inner, m1.outer⟩ :: r), x]⟩ = (9, gcallS, 9) ∧
    ckF ⟨gmsgsF, [calC c l call sub (m0 :: ⟨m1.inner, m0.outer⟩ :: r), x]⟩ = (9, gcallS, 9) ∧ ckF ⟨gmsgsF, [calC c l call sub (m0 :: m1 :: r), x]⟩ = (0, ⟨#[]⟩, 0) := by
  obtain ⟨pk, hm⟩ := h.maps
  obtain ⟨t1, t2⟩ := h.xtwo
  have hl : call.maps.length = x.parts.length := by rw [hm]; simp
  match hq : call.maps with
  | [] => rw [hq] at hl; simp at hl; omega
  | [_] => rw [hq] at hl; simp at hl; omega
  | m0 :: m1 :: r =>
    rw [hq] at hl
    simp only [List.length_cons] at hl
    have mem : ∀ m, m ∈ m0 :: m1 :: r → m ∈ call.maps := fun m h => by rw [hq]; exact h
    refine ⟨m0, m1, r, rfl, by omega, cal_bad h (fun m hm => ?_) (.inl (by simp; omega)), cal_bad h (fun m hm => ?_) (.inr ?_), cal_bad h (fun m hm => ?_) (.inr ?_), ?_⟩
    · exact ⟨⟨m, mem m (List.mem_cons_of_mem _ hm), rfl⟩, ⟨m, mem m (List.mem_cons_of_mem _ hm), rfl⟩⟩
    · rcases List.mem_cons.1 hm with rfl | hm
      · exact ⟨⟨_, mem _ (by simp), rfl⟩, ⟨_, mem _ (by simp), rfl⟩⟩
      · rcases List.mem_cons.1 hm with rfl | hm
        · exact ⟨⟨m0, mem _ (by simp), rfl⟩, ⟨m1, mem _ (by simp), rfl⟩⟩
        · exact ⟨⟨m, mem m (by simp [hm]), rfl⟩, ⟨m, mem m (by simp [hm]), rfl⟩⟩
    · rw [noTw, noTw, List.nil_append, List.any_cons]
      unfold mapTw
      rw [(eqS_iff _ _).2 rfl]
      rfl
    · rcases List.mem_cons.1 hm with rfl | hm
      · exact ⟨⟨_, mem _ (by simp), rfl⟩, ⟨_, mem _ (by simp), rfl⟩⟩
      · rcases List.mem_cons.1 hm with rfl | hm
        · exact ⟨⟨m1, mem _ (by simp), rfl⟩, ⟨m0, mem _ (by simp), rfl⟩⟩
        · exact ⟨⟨m, mem m (by simp [hm]), rfl⟩, ⟨m, mem m (by simp [hm]), rfl⟩⟩
    · rw [noTw, noTw, List.nil_append, List.any_cons]
      unfold mapTw
      rw [(eqS_iff (m0.outer) (m0.outer)).2 rfl, Bool.or_true]
      rfl
    · rw [← hq, cal_same h]
      exact nest_rules h
end
end Go.Proofs.Ytljmghaplnkohaa
