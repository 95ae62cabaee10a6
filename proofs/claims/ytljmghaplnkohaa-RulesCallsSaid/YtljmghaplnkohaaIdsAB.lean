/- What ids.New computes, as plain functions; the table in memory; the contract of add, The contract of the table's level, joined. -/
import Derived.Test.YtljmghaplnkohaaNamU
import Derived.Test.YtljmghaplnkohaaTur
import Derived.Test.YtljmghaplnkohaaCon
import Derived.Test.YtljmghaplnkohaaGenB
import Derived.Outline
import Derived.Deep.DeepCutAuto
namespace Go.Proofs.Ytljmghaplnkohaa
open Go.RowKit

/-- Is a text a name? -/
def isName (s : ByteArray) : Bool := Nm.nameB s.data.toList
def addF (l : List ByteArray) (id : ByteArray) : Int × List ByteArray :=
  if isName id = false then (8, l) else if l.any (eqS · id) = true then (7, l) else (0, l ++ [id])
/-- Ids one behind the other, up to the first that is wrong. -/
def addsF : List ByteArray → List ByteArray → Int × List ByteArray
  | l, [] => (0, l)
  | l, a :: r => if (addF l a).1 = 0 then addsF (addF l a).2 r else addF l a
mutual
/-- The ids of items, and of those within. -/
def idsI : ItemD → List ByteArray
  | ⟨_, id, _, _, _, _, _, _, items, seqs⟩ => id :: (idsL items ++ seqs.map (·.id))
def idsL : List ItemD → List ByteArray
  | [] => []
  | x :: l => idsI x ++ idsL l
end
theorem idsI_eq (x : ItemD) : idsI x = x.id :: (idsL x.items ++ x.seqs.map (·.id)) := by
  obtain ⟨kind, id, first, parts, flows, loop, called, maps, items, seqs⟩ := x
  rw [idsI]
def idsC (c : ChorD) : List ByteArray := c.id :: (c.parts.map (·.id) ++ (c.flows.map (·.id) ++ (idsL c.items ++ c.seqs.map (·.id))))
def idsCs (l : List ChorD) : List ByteArray := l.flatMap idsC
def idsD (d : DocD) : List ByteArray := d.msgs.map (·.id) ++ idsCs d.chors
theorem addF_len (l : List ByteArray) (a : ByteArray) : l.length ≤ (addF l a).2.length ∧ (addF l a).2.length ≤ l.length + 1 := by
  unfold addF
  split
  · exact ⟨Nat.le_refl _, Nat.le_succ _⟩
  · split
    · exact ⟨Nat.le_refl _, Nat.le_succ _⟩
    · simp
theorem addsF_len : ∀ (l r : List ByteArray), l.length ≤ (addsF l r).2.length ∧ (addsF l r).2.length ≤ l.length + r.length
  | l, [] => ⟨Nat.le_refl _, Nat.le_refl _⟩
  | l, a :: r => by
    have h1 := addF_len l a
    unfold addsF
    rw [List.length_cons]
    split
    · have h2 := addsF_len (addF l a).2 r
      omega
    · omega
theorem addsF_cons0 {l : List ByteArray} {a : ByteArray} (h : (addF l a).1 = 0) (r : List ByteArray) : addsF l (a :: r) = addsF (addF l a).2 r := by
  conv => lhs; unfold addsF
  rw [if_pos h]
theorem addsF_consN {l : List ByteArray} {a : ByteArray} (h : (addF l a).1 ≠ 0) (r : List ByteArray) : addsF l (a :: r) = addF l a := by
  conv => lhs; unfold addsF
  rw [if_neg h]
theorem addsF_append : ∀ (l a b : List ByteArray), addsF l (a ++ b) = if (addsF l a).1 = 0 then addsF (addsF l a).2 b else addsF l a
  | l, [], b => by simp [addsF]
  | l, x :: a, b => by
    rw [List.cons_append]
    by_cases h : (addF l x).1 = 0
    · rw [addsF_cons0 h, addsF_cons0 h]
      exact addsF_append _ a b
    · rw [addsF_consN h, addsF_consN h, if_neg h]
theorem addsF_zero {l r : List ByteArray} (h : (addsF l r).1 = 0) (b : List ByteArray) : addsF l (r ++ b) = addsF (addsF l r).2 b := by rw [addsF_append, if_pos h]
theorem addsF_bad {l r : List ByteArray} (h : (addsF l r).1 ≠ 0) (b : List ByteArray) : addsF l (r ++ b) = addsF l r := by rw [addsF_append, if_neg h]

/-- The table: ids so far, in a block that is new since wB. -/
structure TabW (wB : World) (g : Nat) (l : List ByteArray) (W : World) : Prop where
  bel : Below wB.heap.size wB W
  row : ∃ v, Blk W g 85 #[v] ∧ W.ownsRow wB.heap.size 9 1 v l.length (l.map .string)
  hg : wB.heap.size ≤ g
theorem TabW.below {wB W W1 : World} {g : Nat} {l : List ByteArray} (h : TabW wB g l W) (k : Below W.heap.size W W1) : TabW wB g l W1 := by
  obtain ⟨v, h1, h2⟩ := h.row
  exact ⟨h.bel.trans (k.mono h.bel.size), ⟨v, h1.below k h1.lt, own_below h2 k⟩, h.hg⟩
set_option maxRecDepth 100000 in
set_option maxHeartbeats 4000000 in
theorem add_any {wB W : World} {g : Nat} {l : List ByteArray} (id : ByteArray) (hid : id.size ≤ 1000000) (hl : l.length ≤ 1000000) (h : TabW wB g l W) :
    Calls Try.prog 34 #[.pointer (some ⟨g, 0, none⟩), .string id] W fun e w' => e = .returned (.int .i64 (addF l id).1) ∧ TabW wB g (addF l id).2 w' ∧ ChT [9, 85] W w' := by
  obtain ⟨v, hb, ho⟩ := h.row
  obtain ⟨j0, hj0, hy0, hy1, hy2⟩ := info_parts Try.infoFStr
  obtain ⟨A, c, rfl, _, _⟩ := own_slice ho
  have hn := fun W => Nm.name_any id W (by unfold maxLen; omega)
  have hc := contains_any id (rd_of_strs ho)
  have x0 : W.cell? ⟨g, 0, none⟩ = some (.slice A l.length c) := hb.cell 0
  have f0 : W.frozen? ⟨g, 0, none⟩ = false := hb.frozen 0
  have hgl := hb.lt
  have hwB := h.bel.size
  have HN := Lib.hid hn
  have HC := Lib.hid hc
  have HB := Lib.hid hb
  have HO := Lib.hid ho
  have H := Lib.hid h
  obtain ⟨r, hr⟩ : ∃ r, r = addF l id := ⟨_, rfl⟩
  have hr2 := hr
  unfold addF isName at hr2
  rw [← hr]
  have HR := Lib.hid hr2
  clear hn hc hb ho h hr hr2
  go_enter Try.func34, Try.ntmps34
  go_wp2_with fail
  refine (HN.out W).mono ?_
  rintro e w' ⟨rfl, rfl⟩
  obtain ⟨nb, hnb⟩ : ∃ b, b = Nm.nameB id.data.toList := ⟨_, rfl⟩
  rw [← hnb] at HR ⊢
  clear HN hnb
  cases nb
  · have hr := HR.out
    rw [if_pos rfl] at hr
    have HR := Lib.hid hr
    clear hr
    go_wp2_with fail
    go_ret
    rw [HR.out]
    exact ⟨rfl, H.out, ChT.refl _ _⟩
  · have hr := HR.out
    rw [if_neg (by decide)] at hr
    obtain ⟨cb, hcb⟩ : ∃ b, b = l.any (eqS · id) := ⟨_, rfl⟩
    rw [← hcb] at HC hr
    clear hcb
    cases cb
    · rw [if_neg (by decide)] at hr
      have HR := Lib.hid hr
      clear hr
      go_wp2_with fail
      refine HC.out.mono ?_
      rintro e w' ⟨rfl, rfl⟩
      go_wp2_with (at_builtin; refine wpList_append_lies _ rfl (.tmp 20) (.tmp 22) _ rfl wB.heap.size 9 j0 _ 1 16 Try.underlying27 hj0 hy0 hy1 hy2 rfl (by omega) (.slice A l.length c) l.length (l.map .string) rfl (HO.out.alloc _) ⟨W.heap.size, 0, none⟩ 1 1 [.string id] rfl rfl (World.news_of_block (cs := #[.string id]) (t := 9) (fr := (0, 0)) (heap_alloc_new W _)) (by simp [Value.oneCell']) (by omega) (by unfold maxLen; omega) (by omega) (by simp; omega) (W.heap.size + 1) (by simp) ?_)
      intro gA cap w2 hown hgrow hat hlt
      have hne : (Value.slice A l.length c).ownBlock ≠ some g := blk_own_ne HO.out HB.out (by decide)
      have hb2 := (HB.out.alloc (.cells #[.string id] 9)).grown hgrow (Ne.symm hne)
      have y0 : w2.cell? ⟨g, 0, none⟩ = some (.slice A l.length c) := hb2.cell 0
      have q0 : w2.frozen? ⟨g, 0, none⟩ = false := hb2.frozen 0
      have hl2 := hb2.lt
      have hbw : Below wB.heap.size wB w2 := (H.out.bel.alloc hwB _).grown hgrow (by simp; omega) (fun k hk => (HO.out.lt k hk).1)
      have hT : TabW wB g (l ++ [id]) (w2.setCell ⟨g, 0, none⟩ (.slice (some ⟨gA, 0, none⟩) (l.length + 1) cap)) := by
        refine ⟨hbw.setCell (p := ⟨g, 0, none⟩) H.out.hg _, ⟨_, hb2.set_ 0 _, ?_⟩, H.out.hg⟩
        have := ownsRow_setCell_other (a := ⟨g, 0, none⟩) hown (blk_own_ne hown hb2 (by decide)) (.slice (some ⟨gA, 0, none⟩) (l.length + 1) cap)
        simpa using this
      have hC : ChT [9, 85] W (w2.setCell ⟨g, 0, none⟩ (.slice (some ⟨gA, 0, none⟩) (l.length + 1) cap)) :=
        (((ChT.refl _ W).alloc (.cells #[.string id] 9)).row (HO.out.alloc _) hgrow (by decide)).grown (grown_set w2 g 0 _) hb2 (by decide)
      have HT := Lib.hid hT
      have HCH := Lib.hid hC
      clear hT hC hbw hb2 hne hown hgrow hat x0 f0
      go_wp2_with fail
      go_ret
      rw [HR.out]
      exact ⟨rfl, HT.out, HCH.out⟩
    · rw [if_pos rfl] at hr
      have HR := Lib.hid hr
      clear hr
      go_wp2_with fail
      refine HC.out.mono ?_
      rintro e w' ⟨rfl, rfl⟩
      go_wp2_with fail
      go_ret
      rw [HR.out]
      exact ⟨rfl, H.out, ChT.refl _ _⟩
end Go.Proofs.Ytljmghaplnkohaa
namespace Go.Proofs.Ytljmghaplnkohaa
open Go.RowKit
attribute [local go_sem ↓] Go.wp_at_zero Go.wp_at_succ

mutual
/-- How deep items lie within one another. -/
def depI : ItemD → Nat
  | ⟨_, _, _, _, _, _, _, _, items, _⟩ => depL items + 1
def depL : List ItemD → Nat
  | [] => 0
  | x :: l => Nat.max (depI x) (depL l)
end
theorem depI_eq (x : ItemD) : depI x = depL x.items + 1 := by
  obtain ⟨kind, id, first, parts, flows, loop, called, maps, items, seqs⟩ := x
  rw [depI]
theorem depL_mem : ∀ {l : List ItemD} {x : ItemD}, x ∈ l → depI x ≤ depL l
  | y :: l, x, h => by
    rw [depL]
    rcases List.mem_cons.1 h with rfl | h
    · exact Nat.le_max_left _ _
    · exact Nat.le_trans (depL_mem h) (Nat.le_max_right _ _)
/-- What is asked of ids: short enough, not too many. -/
def IdsFit (l ids : List ByteArray) : Prop := (∀ a ∈ ids, a.size ≤ 1000000) ∧ l.length + ids.length ≤ 1000000
/-- What a level does. -/
def LevOk (wB : World) (g : Nat) (items : List ItemD) (seqs : List SeqD) : Prop := ∀ (l : List ByteArray) (W : World) (vI vS : Value),
  IdsFit l (idsL items ++ seqs.map (·.id)) → TabW wB g l W → Rd wB (itemsD items) vI → Rd wB (seqsD seqs) vS →
  Calls Try.prog 58 #[.pointer (some ⟨g, 0, none⟩), vI, vS] W fun e w' => e = .returned (.int .i64 (addsF l (idsL items ++ seqs.map (·.id))).1) ∧ TabW wB g (addsF l (idsL items ++ seqs.map (·.id))).2 w' ∧ ChT [9, 85] W w'
theorem fit_cons {l : List ByteArray} {a : ByteArray} {r : List ByteArray} (h : IdsFit l (a :: r)) : a.size ≤ 1000000 ∧ l.length ≤ 1000000 ∧ IdsFit (addF l a).2 r := by
  have h2 := h.2
  rw [List.length_cons] at h2
  have := addF_len l a
  exact ⟨h.1 a (List.mem_cons_self ..), by omega, fun b hb => h.1 b (List.mem_cons_of_mem _ hb), by omega⟩
theorem fit_append {l a b : List ByteArray} (h : IdsFit l (a ++ b)) : IdsFit l a ∧ IdsFit (addsF l a).2 b := by
  have h2 := h.2
  rw [List.length_append] at h2
  have := addsF_len l a
  exact ⟨⟨fun x hx => h.1 x (List.mem_append_left _ hx), by omega⟩, fun x hx => h.1 x (List.mem_append_right _ hx), by omega⟩
def InL1 (wB W : World) (g : Nat) (items : List ItemD) (S : List ByteArray) (r : Int × List ByteArray) (iv : Value) (wr : World) : Prop :=
  ∃ (k : Nat) (l1 : List ByteArray), k ≤ items.length ∧ iv = .int .i64 k ∧ Hid (addsF l1 (idsL (items.drop k) ++ S) = r ∧ IdsFit l1 (idsL (items.drop k) ++ S)) ∧ TabW wB g l1 wr ∧ ChT [9, 85] W wr
def InL2 (wB W : World) (g : Nat) (seqs : List SeqD) (r : Int × List ByteArray) (iv : Value) (wr : World) : Prop :=
  ∃ (k : Nat) (l1 : List ByteArray), k ≤ seqs.length ∧ iv = .int .i64 k ∧ Hid (addsF l1 ((seqs.drop k).map (·.id)) = r ∧ IdsFit l1 ((seqs.drop k).map (·.id))) ∧ TabW wB g l1 wr ∧ ChT [9, 85] W wr
set_option maxRecDepth 100000 in
set_option maxHeartbeats 8000000 in
theorem ilevel_step {wB : World} {g : Nat} (items : List ItemD) (seqs : List SeqD) (ih : ∀ x ∈ items, LevOk wB g x.items x.seqs) : LevOk wB g items seqs := by
  intro l W vI vS hfit hT hI hS
  obtain ⟨r, hr⟩ : ∃ r, r = addsF l (idsL items ++ seqs.map (·.id)) := ⟨_, rfl⟩
  rw [← hr]
  obtain ⟨AI, cI, rfl, hIl, hIc, _⟩ := rd_at itemC_len hI
  obtain ⟨AQ, cQ, rfl, hQl, hQc, _⟩ := rd_at seqC_len hS
  have hlm : items.length ≤ maxLen := by omega
  have hqm : seqs.length ≤ maxLen := by omega
  unfold maxLen at hlm hqm
  have HR := Lib.hid (And.intro hr.symm hfit)
  have HT := Lib.hid hT
  have HI := Lib.hid hI
  have HS := Lib.hid hS
  have HIH := Lib.hid ih
  clear hr hfit hT hI hS ih hIc hQc hIl hQl
  go_enter Try.func58, Try.ntmps58
  go_wp2_with fail
  go_loopw [16] (fun iv wr => InL1 wB W g items (seqs.map (·.id)) r iv wr) (fun iv _ => items.length - (intOf iv).toNat)
  case atStart => exact ⟨0, l, Nat.zero_le _, rfl, HR.out, HT.out, ChT.refl _ _⟩
  case round =>
    clear HR HT
    obtain ⟨k, l1, hk, rfl, hinv, hT, hC⟩ := hrel
    obtain ⟨V, rfl⟩ : ∃ V, V = wr := ⟨_, rfl⟩
    have HC := Lib.hid hC
    clear hC
    by_cases hlt : k < items.length
    · obtain ⟨AIx, cIx, hvI, _, _, hat⟩ := rd_at itemC_len HI.out
      injection hvI with e1 _ e3
      subst e1
      subst e3
      obtain ⟨b, vs, rfl, hb, _, hvs, hcell⟩ := hat k hlt
      obtain ⟨x, hx⟩ : ∃ x, x = items[k] := ⟨_, rfl⟩
      have hd : items.drop k = x :: items.drop (k + 1) := by rw [hx]; exact List.drop_eq_getElem_cons hlt
      rw [← hx] at hvs
      obtain ⟨hinv1, hinv2⟩ := hinv.out
      rw [hd, idsL, idsI_eq] at hinv1 hinv2
      simp only [List.cons_append, List.append_assoc] at hinv1 hinv2
      obtain ⟨hf1, hf2, hf3⟩ := fit_cons hinv2
      rw [← List.append_assoc (idsL x.items)] at hinv1 hinv2 hf3
      obtain ⟨hf4, hf5⟩ := fit_append hf3
      obtain ⟨v3, v4, v7, v8, v9, rfl, h3, h4, h7, h8, h9⟩ := rd_itemC.1 hvs
      obtain ⟨A3, c3, rfl⟩ := rd_form h3
      obtain ⟨A4, c4, rfl⟩ := rd_form h4
      obtain ⟨A7, c7, rfl⟩ := rd_form h7
      obtain ⟨A8, c8, rfl⟩ := rd_form h8
      obtain ⟨A9, c9, rfl⟩ := rd_form h9
      have hx0 := hT.bel
      have e0 := (hx0.cell (p := ⟨b, k * 10, none⟩) hb).trans (show wB.cell? ⟨b, k * 10, none⟩ = some (.int .i64 x.kind) from hcell 0 (by omega))
      have e1 := (hx0.cell (p := ⟨b, k * 10 + 1, none⟩) hb).trans (show wB.cell? ⟨b, k * 10 + 1, none⟩ = some (.string x.id) from hcell 1 (by omega))
      have e2 := (hx0.cell (p := ⟨b, k * 10 + 2, none⟩) hb).trans (show wB.cell? ⟨b, k * 10 + 2, none⟩ = some (.string x.first) from hcell 2 (by omega))
      have e3 := (hx0.cell (p := ⟨b, k * 10 + 3, none⟩) hb).trans (show wB.cell? ⟨b, k * 10 + 3, none⟩ = some (.slice A3 x.parts.length c3) from hcell 3 (by omega))
      have e4 := (hx0.cell (p := ⟨b, k * 10 + 4, none⟩) hb).trans (show wB.cell? ⟨b, k * 10 + 4, none⟩ = some (.slice A4 x.flows.length c4) from hcell 4 (by omega))
      have e5 := (hx0.cell (p := ⟨b, k * 10 + 5, none⟩) hb).trans (show wB.cell? ⟨b, k * 10 + 5, none⟩ = some (.bool x.loop) from hcell 5 (by omega))
      have e6 := (hx0.cell (p := ⟨b, k * 10 + 6, none⟩) hb).trans (show wB.cell? ⟨b, k * 10 + 6, none⟩ = some (.string x.called) from hcell 6 (by omega))
      have e7 := (hx0.cell (p := ⟨b, k * 10 + 7, none⟩) hb).trans (show wB.cell? ⟨b, k * 10 + 7, none⟩ = some (.slice A7 x.maps.length c7) from hcell 7 (by omega))
      have e8 := (hx0.cell (p := ⟨b, k * 10 + 8, none⟩) hb).trans (show wB.cell? ⟨b, k * 10 + 8, none⟩ = some (.slice A8 x.items.length c8) from hcell 8 (by omega))
      have e9 := (hx0.cell (p := ⟨b, k * 10 + 9, none⟩) hb).trans (show wB.cell? ⟨b, k * 10 + 9, none⟩ = some (.slice A9 x.seqs.length c9) from hcell 9 (by omega))
      obtain ⟨gx, hgx⟩ : ∃ g, g = V.heap.size := ⟨_, rfl⟩
      obtain ⟨T1, hT1⟩ : ∃ T, T = V.alloc (.cells #[.int .i64 x.kind, .string x.id, .string x.first, .slice A3 x.parts.length c3, .slice A4 x.flows.length c4, .bool x.loop, .string x.called, .slice A7 x.maps.length c7, .slice A8 x.items.length c8, .slice A9 x.seqs.length c9] 30) := ⟨_, rfl⟩
      have bT1 : Below V.heap.size V T1 := by rw [hT1]; exact (Below.refl _ _).alloc (Nat.le_refl _) _
      have hbx : Blk T1 gx 30 #[.int .i64 x.kind, .string x.id, .string x.first, .slice A3 x.parts.length c3, .slice A4 x.flows.length c4, .bool x.loop, .string x.called, .slice A7 x.maps.length c7, .slice A8 x.items.length c8, .slice A9 x.seqs.length c9] := by rw [hT1, hgx]; exact Blk.new _ _ _
      have hTT := hT.below bT1
      have hcall := add_any x.id hf1 hf2 hTT
      have hlev := HIH.out x (by rw [hx]; exact List.getElem_mem hlt)
      have HCALL := Lib.hid hcall
      have HLEV := Lib.hid hlev
      have HBX := Lib.hid hbx
      have HDAT := Lib.hid (And.intro h8 h9)
      have HC1 := Lib.hid (HC.out.below bT1)
      have HN := Lib.hid (And.intro hinv1 (And.intro hf4 hf5))
      have HT1 := Lib.hid hT1.symm
      have HGX := Lib.hid hgx.symm
      have hkI : (k : Int) < (items.length : Int) := by omega
      clear hT hat hvs hcell hx hd h3 h4 h7 h8 h9 hinv hinv1 hinv2 hT1 hgx bT1 hbx hTT hcall hlev hf1 hf2 hf3 hf4 hf5 hx0
      go_upto_region 4 with fail
      rw [HT1.out, HGX.out]
      clear e0 e1 e2 e3 e4 e5 e6 e7 e8 e9 HT1
      have x1 : T1.cell? ⟨gx, 1, none⟩ = some (.string x.id) := HBX.out.cell 1
      go_wp2_with fail
      refine HCALL.out.mono ?_
      rintro e w3 ⟨rfl, hT3, hc3⟩
      have hbx3 := HBX.out.ch hc3 (by decide)
      have hC3 := HC1.out.trans hc3
      obtain ⟨a, ha⟩ : ∃ a, a = addF l1 x.id := ⟨_, rfl⟩
      obtain ⟨hn1, hn2, hn3⟩ := HN.out
      rw [← ha] at hT3 hn2 hn3 ⊢
      clear x1 HCALL HBX HC1
      by_cases hz : a.1 = 0
      · have hzb : (a.1 == 0) = true := by simp [hz]
        rw [addsF_cons0 (by rw [← ha]; exact hz), ← ha] at hn1
        have x8 : w3.cell? ⟨gx, 8, none⟩ = some (.slice A8 x.items.length c8) := hbx3.cell 8
        have x9 : w3.cell? ⟨gx, 9, none⟩ = some (.slice A9 x.seqs.length c9) := hbx3.cell 9
        have hcall := HLEV.out a.2 w3 _ _ hn2 hT3 HDAT.out.1 HDAT.out.2
        have HCALL := Lib.hid hcall
        have HN1 := Lib.hid hn1
        have HN3 := Lib.hid hn3
        have HC3 := Lib.hid hC3
        clear hcall hT3 hbx3 hC3 hc3 hn1 hn2 hn3 HN HLEV HDAT ha hz
        go_wp2_with fail
        refine HCALL.out.mono ?_
        rintro e w4 ⟨rfl, hT4, hc4⟩
        obtain ⟨t, ht⟩ : ∃ t, t = addsF a.2 (idsL x.items ++ x.seqs.map (·.id)) := ⟨_, rfl⟩
        have hn1 := HN1.out
        have hn3 := HN3.out
        rw [← ht] at hT4 hn3 ⊢
        have hC4 := HC3.out.trans hc4
        clear HCALL HN1 HN3 HC3 x8 x9 hc4
        by_cases hz2 : t.1 = 0
        · have hzb2 : (t.1 == 0) = true := by simp [hz2]
          rw [addsF_zero (by rw [← ht]; exact hz2), ← ht] at hn1
          have HN := Lib.hid (And.intro hn1 hn3)
          have HT4 := Lib.hid hT4
          have HC4 := Lib.hid hC4
          clear hn1 hn3 hT4 hC4 ht hz2
          go_wp2_with fail
          go_roundw
          case rel => exact ⟨k + 1, t.2, by omega, by go_num, HN, HT4.out, HC4.out⟩
          case measure => simp [intOf]; omega
        · have hzb2 : (t.1 == 0) = false := by simp [hz2]
          rw [addsF_bad (by rw [← ht]; exact hz2), ← ht] at hn1
          have HN := Lib.hid hn1
          have HT4 := Lib.hid hT4
          have HC4 := Lib.hid hC4
          clear hn1 hn3 hT4 hC4 ht hz2
          go_wp2_with fail
          go_ret
          rw [← HN.out]
          exact ⟨rfl, HT4.out, HC4.out⟩
      · have hzb : (a.1 == 0) = false := by simp [hz]
        rw [addsF_consN (by rw [← ha]; exact hz), ← ha] at hn1
        have HN1 := Lib.hid hn1
        have HT3 := Lib.hid hT3
        have HC3 := Lib.hid hC3
        clear hT3 hbx3 hC3 hc3 hn1 hn2 hn3 HN HLEV HDAT ha hz
        go_wp2_with fail
        go_ret
        rw [← HN1.out]
        exact ⟨rfl, HT3.out, HC3.out⟩
    · have hkl : k = items.length := by omega
      obtain ⟨hinv1, hinv2⟩ := hinv.out
      rw [hkl, List.drop_length, idsL, List.nil_append] at hinv1 hinv2
      have HN := Lib.hid (And.intro hinv1 hinv2)
      have HT := Lib.hid hT
      clear hinv hinv1 hinv2 hT hkl
      go_wp2_with fail
      go_loopw [39] (fun iv wr => InL2 wB W g seqs r iv wr) (fun iv _ => seqs.length - (intOf iv).toNat)
      case atStart => exact ⟨0, l1, Nat.zero_le _, rfl, HN.out, HT.out, HC.out⟩
      case round =>
        clear HN HT HC
        obtain ⟨j, l2, hj, rfl, hinv, hT, hC⟩ := hrel
        obtain ⟨V2, rfl⟩ : ∃ V, V = wr := ⟨_, rfl⟩
        have HC := Lib.hid hC
        clear hC
        by_cases hlt2 : j < seqs.length
        · obtain ⟨AQx, cQx, hvQ, _, _, hat⟩ := rd_at seqC_len (Rd.below hT.bel _ _ HS.out)
          injection hvQ with e1 _ e3
          subst e1
          subst e3
          obtain ⟨b, vs, rfl, hb, _, hvs, hcell⟩ := hat j hlt2
          obtain ⟨q, hq⟩ : ∃ q, q = seqs[j] := ⟨_, rfl⟩
          have hd : seqs.drop j = q :: seqs.drop (j + 1) := by rw [hq]; exact List.drop_eq_getElem_cons hlt2
          rw [← hq] at hvs
          obtain rfl := rd_seqC hvs
          obtain ⟨hinv1, hinv2⟩ := hinv.out
          rw [hd, List.map_cons] at hinv1 hinv2
          obtain ⟨hf1, hf2, hf3⟩ := fit_cons hinv2
          have e0 : V2.cell? ⟨b, j * 3, none⟩ = some (.string q.id) := hcell 0 (by omega)
          have e1 : V2.cell? ⟨b, j * 3 + 1, none⟩ = some (.string q.src) := hcell 1 (by omega)
          have e2 : V2.cell? ⟨b, j * 3 + 2, none⟩ = some (.string q.dst) := hcell 2 (by omega)
          have hcall := fun o => add_any q.id hf1 hf2 (hT.below ((Below.refl V2.heap.size V2).alloc (Nat.le_refl _) o))
          have HCALL := Lib.hid hcall
          have HN := Lib.hid (And.intro hinv1 hf3)
          have hjI : (j : Int) < (seqs.length : Int) := by omega
          clear hT hat hvs hcell hq hd hinv hinv1 hinv2 hf1 hf2 hf3 hcall
          go_wp2_with fail
          refine (HCALL.out _).mono ?_
          rintro e w3 ⟨rfl, hT3, hc3⟩
          obtain ⟨a, ha⟩ : ∃ a, a = addF l2 q.id := ⟨_, rfl⟩
          obtain ⟨hn1, hn2⟩ := HN.out
          rw [← ha] at hT3 hn2 ⊢
          have hC3 := (HC.out.alloc _).trans hc3
          clear e0 e1 e2 HCALL HC HN hc3
          by_cases hz : a.1 = 0
          · have hzb : (a.1 == 0) = true := by simp [hz]
            rw [addsF_cons0 (by rw [← ha]; exact hz), ← ha] at hn1
            have HN := Lib.hid (And.intro hn1 hn2)
            have HT3 := Lib.hid hT3
            have HC3 := Lib.hid hC3
            clear hn1 hn2 hT3 hC3 ha hz
            go_wp2_with fail
            go_roundw
            case rel => exact ⟨j + 1, a.2, by omega, by go_num, HN, HT3.out, HC3.out⟩
            case measure => simp [intOf]; omega
          · have hzb : (a.1 == 0) = false := by simp [hz]
            rw [addsF_consN (by rw [← ha]; exact hz), ← ha] at hn1
            have HN := Lib.hid hn1
            have HT3 := Lib.hid hT3
            have HC3 := Lib.hid hC3
            clear hn1 hn2 hT3 hC3 ha hz
            go_wp2_with fail
            go_ret
            rw [← HN.out]
            exact ⟨rfl, HT3.out, HC3.out⟩
        · obtain ⟨hinv1, _⟩ := hinv.out
          rw [List.drop_eq_nil_of_le (by omega)] at hinv1
          have hrr : r = (0, l2) := hinv1.symm
          have HT := Lib.hid hT
          clear hinv hinv1 hT
          subst hrr
          go_wp2_with fail
          go_ret
          exact ⟨rfl, HT.out, HC.out⟩
theorem ilevel_any {wB : World} {g : Nat} : ∀ (n : Nat) (items : List ItemD) (seqs : List SeqD), depL items ≤ n → LevOk wB g items seqs
  | 0, [], seqs, _ => ilevel_step [] seqs (fun x hx => by cases hx)
  | 0, x :: l, seqs, h => by
    have h1 := depL_mem (List.mem_cons_self (a := x) (l := l))
    rw [depI_eq] at h1
    omega
  | n + 1, items, seqs, h => ilevel_step items seqs (fun x hx => ilevel_any n x.items x.seqs (by
    have h1 := depL_mem hx
    rw [depI_eq] at h1
    omega))
end Go.Proofs.Ytljmghaplnkohaa
