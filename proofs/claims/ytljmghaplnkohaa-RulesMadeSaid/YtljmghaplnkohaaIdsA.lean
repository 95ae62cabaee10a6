/- What ids.New computes, as plain functions; the table in memory; the contract of add. -/
import Derived.Test.YtljmghaplnkohaaNamU
import Derived.Test.YtljmghaplnkohaaTur
import Derived.Test.YtljmghaplnkohaaCon
namespace Go.Proofs.Ytljmghaplnkohaa
open Go.RowKit

/-- Is a text a name? -/
def isName (s : ByteArray) : Bool := Nm.nameB s.data.toList
def addF (l : List ByteArray) (id : ByteArray) : Int × List ByteArray :=
  if isName id = false then (8, l) else if l.any (eqS · id) = true then (7, l) else (0, l ++ [id])
/-- Ids one behind the other, up to the first that is wrong. -/
def addsF : List ByteArray → List ByteArray → Int × List ByteArray
  | l, [] => (0, l)
  | l, a :: r => if (addF l a).1 = 0 then addsF (addF l a).2 r else addF l a
mutual
/-- The ids of items, and of those within. -/
def idsI : ItemD → List ByteArray
  | ⟨_, id, _, _, _, _, _, _, items, seqs⟩ => id :: (idsL items ++ seqs.map (·.id))
def idsL : List ItemD → List ByteArray
  | [] => []
  | x :: l => idsI x ++ idsL l
end
theorem idsI_eq (x : ItemD) : idsI x = x.id :: (idsL x.items ++ x.seqs.map (·.id)) := by
  obtain ⟨kind, id, first, parts, flows, loop, called, maps, items, seqs⟩ := x
  rw [idsI]
def idsC (c : ChorD) : List ByteArray := c.id :: (c.parts.map (·.id) ++ (c.flows.map (·.id) ++ (idsL c.items ++ c.seqs.map (·.id))))
def idsCs (l : List ChorD) : List ByteArray := l.flatMap idsC
def idsD (d : DocD) : List ByteArray := d.msgs.map (·.id) ++ idsCs d.chors
theorem addF_len (l : List ByteArray) (a : ByteArray) : l.length ≤ (addF l a).2.length ∧ (addF l a).2.length ≤ l.length + 1 := by
  unfold addF
  split
  · exact ⟨Nat.le_refl _, Nat.le_succ _⟩
  · split
    · exact ⟨Nat.le_refl _, Nat.le_succ _⟩
    · simp
theorem addsF_len : ∀ (l r : List ByteArray), l.length ≤ (addsF l r).2.length ∧ (addsF l r).2.length ≤ l.length + r.length
  | l, [] => ⟨Nat.le_refl _, Nat.le_refl _⟩
  | l, a :: r => by
    have h1 := addF_len l a
    unfold addsF
    rw [List.length_cons]
    split
    · have h2 := addsF_len (addF l a).2 r
      omega
    · omega
theorem addsF_cons0 {l : List ByteArray} {a : ByteArray} (h : (addF l a).1 = 0) (r : List ByteArray) : addsF l (a :: r) = addsF (addF l a).2 r := by
  conv => lhs; unfold addsF
  rw [if_pos h]
theorem addsF_consN {l : List ByteArray} {a : ByteArray} (h : (addF l a).1 ≠ 0) (r : List ByteArray) : addsF l (a :: r) = addF l a := by
  conv => lhs; unfold addsF
  rw [if_neg h]
theorem addsF_append : ∀ (l a b : List ByteArray), addsF l (a ++ b) = if (addsF l a).1 = 0 then addsF (addsF l a).2 b else addsF l a
  | l, [], b => by simp [addsF]
  | l, x :: a, b => by
    rw [List.cons_append]
    by_cases h : (addF l x).1 = 0
    · rw [addsF_cons0 h, addsF_cons0 h]
      exact addsF_append _ a b
    · rw [addsF_consN h, addsF_consN h, if_neg h]
theorem addsF_zero {l r : List ByteArray} (h : (addsF l r).1 = 0) (b : List ByteArray) : addsF l (r ++ b) = addsF (addsF l r).2 b := by rw [addsF_append, if_pos h]
theorem addsF_bad {l r : List ByteArray} (h : (addsF l r).1 ≠ 0) (b : List ByteArray) : addsF l (r ++ b) = addsF l r := by rw [addsF_append, if_neg h]

/-- The table: ids so far, in a block that is new since wB. -/
structure TabW (wB : World) (g : Nat) (l : List ByteArray) (W : World) : Prop where
  bel : Below wB.heap.size wB W
  row : ∃ v, Blk W g 85 #[v] ∧ W.ownsRow wB.heap.size 9 1 v l.length (l.map .string)
  hg : wB.heap.size ≤ g
theorem TabW.below {wB W W1 : World} {g : Nat} {l : List ByteArray} (h : TabW wB g l W) (k : Below W.heap.size W W1) : TabW wB g l W1 := by
  obtain ⟨v, h1, h2⟩ := h.row
  exact ⟨h.bel.trans (k.mono h.bel.size), ⟨v, h1.below k h1.lt, own_below h2 k⟩, h.hg⟩
set_option maxRecDepth 100000 in
set_option maxHeartbeats 4000000 in
theorem add_any {wB W : World} {g : Nat} {l : List ByteArray} (id : ByteArray) (hid : id.size ≤ 1000000) (hl : l.length ≤ 1000000) (h : TabW wB g l W) :
    Calls Try.prog 34 #[.pointer (some ⟨g, 0, none⟩), .string id] W fun e w' => e = .returned (.int .i64 (addF l id).1) ∧ TabW wB g (addF l id).2 w' ∧ ChT [9, 85] W w' := by
  obtain ⟨v, hb, ho⟩ := h.row
  obtain ⟨j0, hj0, hy0, hy1, hy2⟩ := info_parts Try.infoFStr
  obtain ⟨A, c, rfl, _, _⟩ := own_slice ho
  have hn := fun W => Nm.name_any id W (by unfold maxLen; omega)
  have hc := contains_any id (rd_of_strs ho)
  have x0 : W.cell? ⟨g, 0, none⟩ = some (.slice A l.length c) := hb.cell 0
  have f0 : W.frozen? ⟨g, 0, none⟩ = false := hb.frozen 0
  have hgl := hb.lt
  have hwB := h.bel.size
  have HN := Lib.hid hn
  have HC := Lib.hid hc
  have HB := Lib.hid hb
  have HO := Lib.hid ho
  have H := Lib.hid h
  obtain ⟨r, hr⟩ : ∃ r, r = addF l id := ⟨_, rfl⟩
  have hr2 := hr
  unfold addF isName at hr2
  rw [← hr]
  have HR := Lib.hid hr2
  clear hn hc hb ho h hr hr2
  go_enter Try.func34, Try.ntmps34
  go_wp2_with fail
  refine (HN.out W).mono ?_
  rintro e w' ⟨rfl, rfl⟩
  obtain ⟨nb, hnb⟩ : ∃ b, b = Nm.nameB id.data.toList := ⟨_, rfl⟩
  rw [← hnb] at HR ⊢
  clear HN hnb
  cases nb
  · have hr := HR.out
    rw [if_pos rfl] at hr
    have HR := Lib.hid hr
    clear hr
    go_wp2_with fail
    go_ret
    rw [HR.out]
    exact ⟨rfl, H.out, ChT.refl _ _⟩
  · have hr := HR.out
    rw [if_neg (by decide)] at hr
    obtain ⟨cb, hcb⟩ : ∃ b, b = l.any (eqS · id) := ⟨_, rfl⟩
    rw [← hcb] at HC hr
    clear hcb
    cases cb
    · rw [if_neg (by decide)] at hr
      have HR := Lib.hid hr
      clear hr
      go_wp2_with fail
      refine HC.out.mono ?_
      rintro e w' ⟨rfl, rfl⟩
      go_wp2_with (at_builtin; refine wpList_append_lies _ rfl (.tmp 20) (.tmp 22) _ rfl wB.heap.size 9 j0 _ 1 16 Try.underlying27 hj0 hy0 hy1 hy2 rfl (by omega) (.slice A l.length c) l.length (l.map .string) rfl (HO.out.alloc _) ⟨W.heap.size, 0, none⟩ 1 1 [.string id] rfl rfl (World.news_of_block (cs := #[.string id]) (t := 9) (fr := (0, 0)) (heap_alloc_new W _)) (by simp [Value.oneCell']) (by omega) (by unfold maxLen; omega) (by omega) (by simp; omega) (W.heap.size + 1) (by simp) ?_)
      intro gA cap w2 hown hgrow hat hlt
      have hne : (Value.slice A l.length c).ownBlock ≠ some g := blk_own_ne HO.out HB.out (by decide)
      have hb2 := (HB.out.alloc (.cells #[.string id] 9)).grown hgrow (Ne.symm hne)
      have y0 : w2.cell? ⟨g, 0, none⟩ = some (.slice A l.length c) := hb2.cell 0
      have q0 : w2.frozen? ⟨g, 0, none⟩ = false := hb2.frozen 0
      have hl2 := hb2.lt
      have hbw : Below wB.heap.size wB w2 := (H.out.bel.alloc hwB _).grown hgrow (by simp; omega) (fun k hk => (HO.out.lt k hk).1)
      have hT : TabW wB g (l ++ [id]) (w2.setCell ⟨g, 0, none⟩ (.slice (some ⟨gA, 0, none⟩) (l.length + 1) cap)) := by
        refine ⟨hbw.setCell (p := ⟨g, 0, none⟩) H.out.hg _, ⟨_, hb2.set_ 0 _, ?_⟩, H.out.hg⟩
        have := ownsRow_setCell_other (a := ⟨g, 0, none⟩) hown (blk_own_ne hown hb2 (by decide)) (.slice (some ⟨gA, 0, none⟩) (l.length + 1) cap)
        simpa using this
      have hC : ChT [9, 85] W (w2.setCell ⟨g, 0, none⟩ (.slice (some ⟨gA, 0, none⟩) (l.length + 1) cap)) :=
        (((ChT.refl _ W).alloc (.cells #[.string id] 9)).row (HO.out.alloc _) hgrow (by decide)).grown (grown_set w2 g 0 _) hb2 (by decide)
      have HT := Lib.hid hT
      have HCH := Lib.hid hC
      clear hT hC hbw hb2 hne hown hgrow hat x0 f0
      go_wp2_with fail
      go_ret
      rw [HR.out]
      exact ⟨rfl, HT.out, HCH.out⟩
    · rw [if_pos rfl] at hr
      have HR := Lib.hid hr
      clear hr
      go_wp2_with fail
      refine HC.out.mono ?_
      rintro e w' ⟨rfl, rfl⟩
      go_wp2_with fail
      go_ret
      rw [HR.out]
      exact ⟨rfl, H.out, ChT.refl _ _⟩
end Go.Proofs.Ytljmghaplnkohaa
