/- The contract of galliardlaw09.all. -/
import Derived.Test.YtljmghaplnkohaaIdsB
import Derived.Test.YtljmghaplnkohaaReg
import Derived.Test.YtljmghaplnkohaaApp
import Derived.Deep.CutBlock
namespace Go.Proofs.Ytljmghaplnkohaa
open Go.RowKit
attribute [local go_sem ↓] Go.wp_at_zero Go.wp_at_succ

/-- A row of texts of the call's own. -/
def StrRow (w : World) (ids : List ByteArray) (v : Value) (W : World) : Prop := W.ownsRow w.heap.size 9 1 v ids.length (ids.map .string)
theorem StrRow.below {w W W1 : World} {ids : List ByteArray} {v : Value} (h : StrRow w ids v W) (k : Below W.heap.size W W1) : StrRow w ids v W1 := own_below h k
/-- What all does. -/
def AllOk (items : List ItemD) (seqs : List SeqD) : Prop := ∀ (w : World) (vI vS : Value), (idsL items ++ seqs.map (·.id)).length ≤ 1000000 → Rd w (itemsD items) vI → Rd w (seqsD seqs) vS →
  Calls Try.prog 36 #[vI, vS] w fun e w' => ∃ A c, e = .returned (.slice A (idsL items ++ seqs.map (·.id)).length c) ∧ StrRow w (idsL items ++ seqs.map (·.id)) (.slice A (idsL items ++ seqs.map (·.id)).length c) w' ∧ Below w.heap.size w w'
theorem idsL_take {l : List ItemD} {k : Nat} (h : k < l.length) : idsL (l.take (k + 1)) = idsL (l.take k) ++ idsI l[k] := by
  have app : ∀ a b : List ItemD, idsL (a ++ b) = idsL a ++ idsL b := by
    intro a b
    induction a with
    | nil => rw [idsL]; rfl
    | cons x a ih => rw [List.cons_append, idsL, idsL, ih, List.append_assoc]
  rw [List.take_succ_eq_append_getElem h, app, idsL, idsL, List.append_nil]
theorem idsL_take_le (l : List ItemD) (k : Nat) : (idsL (l.take k)).length ≤ (idsL l).length := by
  have app : ∀ a b : List ItemD, idsL (a ++ b) = idsL a ++ idsL b := by
    intro a b
    induction a with
    | nil => rw [idsL]; rfl
    | cons x a ih => rw [List.cons_append, idsL, idsL, ih, List.append_assoc]
  conv => rhs; rw [← List.take_append_drop k l, app]
  simp
def InA1 (w : World) (items : List ItemD) (ov iv : Value) (wr : World) : Prop :=
  ∃ (k : Nat) (A : Option Addr) (c : Nat) (ids : List ByteArray), k ≤ items.length ∧ iv = .int .i64 k ∧ ov = .slice A ids.length c ∧ ids = idsL (items.take k) ∧ StrRow w ids (.slice A ids.length c) wr ∧ Below w.heap.size w wr
def InA2 (w : World) (pre : List ByteArray) (seqs : List SeqD) (ov iv : Value) (wr : World) : Prop :=
  ∃ (k : Nat) (A : Option Addr) (c : Nat) (ids : List ByteArray), k ≤ seqs.length ∧ iv = .int .i64 k ∧ ov = .slice A ids.length c ∧ ids = pre ++ (seqs.take k).map (·.id) ∧ StrRow w ids (.slice A ids.length c) wr ∧ Below w.heap.size w wr
set_option maxRecDepth 100000 in
set_option maxHeartbeats 8000000 in
theorem all_step (items : List ItemD) (seqs : List SeqD) (ih : ∀ x ∈ items, AllOk x.items x.seqs) : AllOk items seqs := by
  intro w vI vS hlen hI hS
  obtain ⟨AI, cI, rfl, hIl, hIc, _⟩ := rd_at itemC_len hI
  obtain ⟨AQ, cQ, rfl, hQl, hQc, _⟩ := rd_at seqC_len hS
  have hlm : items.length ≤ maxLen := by omega
  have hqm : seqs.length ≤ maxLen := by omega
  unfold maxLen at hlm hqm
  obtain ⟨j0, hj0, hy0, hy1, hy2⟩ := info_parts Try.infoFStr
  obtain ⟨ids, hids⟩ : ∃ l, l = idsL items ++ seqs.map (·.id) := ⟨_, rfl⟩
  rw [← hids] at hlen ⊢
  have hle1 : (idsL items).length ≤ 1000000 := by rw [hids, List.length_append] at hlen; omega
  have HI := Lib.hid hI
  have HS := Lib.hid hS
  have HIH := Lib.hid ih
  have HIDS := Lib.hid hids
  clear hI hS ih hIl hIc hQl hQc hids
  go_enter Try.func36, Try.ntmps36
  go_wp2_with fail
  go_loopw [5, 6] (fun ov iv wr => InA1 w items ov iv wr) (fun _ iv _ => items.length - (intOf iv).toNat)
  case atStart =>
    refine ⟨0, some ⟨w.heap.size, 0, none⟩, 0, [], Nat.zero_le _, rfl, rfl, by rw [List.take_zero, idsL], ?_, (Below.refl _ _).alloc (Nat.le_refl _) _⟩
    exact World.ownsRow_lit (base := w.heap.size) w #[] 0 (Nat.le_refl _) (by decide) rfl
  case round =>
    obtain ⟨k, A, c, cur, hk, rfl, rfl, hcur, hO, hB⟩ := hrel
    obtain ⟨V, rfl⟩ : ∃ V, V = wr := ⟨_, rfl⟩
    have HO := Lib.hid hO
    have HB := Lib.hid hB
    have hwV := hB.size
    clear hO hB
    by_cases hlt : k < items.length
    · obtain ⟨AIx, cIx, hvI, _, _, hat⟩ := rd_at itemC_len HI.out
      injection hvI with e1 _ e3
      subst e1
      subst e3
      obtain ⟨b, vs, rfl, hb, _, hvs, hcell⟩ := hat k hlt
      obtain ⟨x, hx⟩ : ∃ x, x = items[k] := ⟨_, rfl⟩
      have hst : idsL (items.take (k + 1)) = cur ++ (x.id :: (idsL x.items ++ x.seqs.map (·.id))) := by rw [idsL_take hlt, ← hcur, ← hx, idsI_eq]
      have hln := idsL_take_le items (k + 1)
      rw [hst, List.length_append, List.length_cons] at hln
      rw [← hx] at hvs
      obtain ⟨v3, v4, v7, v8, v9, rfl, h3, h4, h7, h8, h9⟩ := rd_itemC.1 hvs
      obtain ⟨A3, c3, rfl⟩ := rd_form h3
      obtain ⟨A4, c4, rfl⟩ := rd_form h4
      obtain ⟨A7, c7, rfl⟩ := rd_form h7
      obtain ⟨A8, c8, rfl⟩ := rd_form h8
      obtain ⟨A9, c9, rfl⟩ := rd_form h9
      have e1 : w.cell? ⟨b, k * 10 + 1, none⟩ = some (.string x.id) := hcell 1 (by omega)
      have e8 : w.cell? ⟨b, k * 10 + 8, none⟩ = some (.slice A8 x.items.length c8) := hcell 8 (by omega)
      have e9 : w.cell? ⟨b, k * 10 + 9, none⟩ = some (.slice A9 x.seqs.length c9) := hcell 9 (by omega)
      have HIX := Lib.hid (HIH.out x (by rw [hx]; exact List.getElem_mem hlt))
      have HX8 := Lib.hid h8
      have HX9 := Lib.hid h9
      have HST := Lib.hid hst
      obtain ⟨sub, hsub⟩ : ∃ l, l = idsL x.items ++ x.seqs.map (·.id) := ⟨_, rfl⟩
      have HSUB := Lib.hid hsub
      rw [← hsub] at hln
      have hkI : (k : Int) < (items.length : Int) := by omega
      clear hat hvs hcell hx hst h3 h4 h7 h8 h9 hcur hsub
      go_upto_region 5 with fail
      refine wp_region_HT 19 (fun U => Below w.heap.size w U) (by kernel_rfl) (by decide) (HB.out.drew) (fun hHeld => ?_)
      refine ht_take 0 (v := ?va_1) rfl (by kernel_rfl) (fun _ _ _ h => h) (Or.inl ⟨by rfl, ?ha_1⟩) hHeld ?ra_1
      case ha_1 => ((intro U hSw; have z1 := (hSw.cell (p := ⟨b, k * 10 + 1, none⟩) hb).trans e1; have z8 := (hSw.cell (p := ⟨b, k * 10 + 8, none⟩) hb).trans e8; have z9 := (hSw.cell (p := ⟨b, k * 10 + 9, none⟩) hb).trans e9; go_simp); (try (with_reducible rfl)))
      try simp only [Act.put, List.setIfInBounds_toArray, List.set_cons_zero, List.set_cons_succ]
      refine ht_take 1 (v := ?va_2) rfl (by kernel_rfl) (fun _ _ _ h => h) (Or.inl ⟨by rfl, ?ha_2⟩) hHeld ?ra_2
      case ha_2 => ((intro U hSw; have z1 := (hSw.cell (p := ⟨b, k * 10 + 1, none⟩) hb).trans e1; have z8 := (hSw.cell (p := ⟨b, k * 10 + 8, none⟩) hb).trans e8; have z9 := (hSw.cell (p := ⟨b, k * 10 + 9, none⟩) hb).trans e9; go_simp); (try (with_reducible rfl)))
      try simp only [Act.put, List.setIfInBounds_toArray, List.set_cons_zero, List.set_cons_succ]
      refine ht_take 2 (v := ?va_3) rfl (by kernel_rfl) (fun _ _ _ h => h) (Or.inl ⟨by rfl, ?ha_3⟩) hHeld ?ra_3
      case ha_3 => ((intro U hSw; have z1 := (hSw.cell (p := ⟨b, k * 10 + 1, none⟩) hb).trans e1; have z8 := (hSw.cell (p := ⟨b, k * 10 + 8, none⟩) hb).trans e8; have z9 := (hSw.cell (p := ⟨b, k * 10 + 9, none⟩) hb).trans e9; go_simp); (try (with_reducible rfl)))
      try simp only [Act.put, List.setIfInBounds_toArray, List.set_cons_zero, List.set_cons_succ]
      refine ht_take 3 (v := ?va_4) rfl (by kernel_rfl) (fun _ _ _ h => h) (Or.inl ⟨by rfl, ?ha_4⟩) hHeld ?ra_4
      case ha_4 => ((intro U hSw; have z1 := (hSw.cell (p := ⟨b, k * 10 + 1, none⟩) hb).trans e1; have z8 := (hSw.cell (p := ⟨b, k * 10 + 8, none⟩) hb).trans e8; have z9 := (hSw.cell (p := ⟨b, k * 10 + 9, none⟩) hb).trans e9; go_simp); (try (with_reducible rfl)))
      try simp only [Act.put, List.setIfInBounds_toArray, List.set_cons_zero, List.set_cons_succ]
      refine ht_take 4 (v := ?va_5) rfl (by kernel_rfl) (fun _ _ _ h => h) (Or.inl ⟨by rfl, ?ha_5⟩) hHeld ?ra_5
      case ha_5 => ((intro U hSw; have z1 := (hSw.cell (p := ⟨b, k * 10 + 1, none⟩) hb).trans e1; have z8 := (hSw.cell (p := ⟨b, k * 10 + 8, none⟩) hb).trans e8; have z9 := (hSw.cell (p := ⟨b, k * 10 + 9, none⟩) hb).trans e9; go_simp); (try (with_reducible rfl)))
      try simp only [Act.put, List.setIfInBounds_toArray, List.set_cons_zero, List.set_cons_succ]
      refine ht_take 5 (v := ?va_6) rfl (by kernel_rfl) (fun _ _ _ h => h) (Or.inl ⟨by rfl, ?ha_6⟩) hHeld ?ra_6
      case ha_6 => ((intro U hSw; have z1 := (hSw.cell (p := ⟨b, k * 10 + 1, none⟩) hb).trans e1; have z8 := (hSw.cell (p := ⟨b, k * 10 + 8, none⟩) hb).trans e8; have z9 := (hSw.cell (p := ⟨b, k * 10 + 9, none⟩) hb).trans e9; go_simp); (try (with_reducible rfl)))
      try simp only [Act.put, List.setIfInBounds_toArray, List.set_cons_zero, List.set_cons_succ]
      refine ht_take 8 (v := ?va_7) rfl (by kernel_rfl) (fun _ _ _ h => h) (Or.inl ⟨by rfl, ?ha_7⟩) hHeld ?ra_7
      case ha_7 => ((intro U hSw; have z1 := (hSw.cell (p := ⟨b, k * 10 + 1, none⟩) hb).trans e1; have z8 := (hSw.cell (p := ⟨b, k * 10 + 8, none⟩) hb).trans e8; have z9 := (hSw.cell (p := ⟨b, k * 10 + 9, none⟩) hb).trans e9; go_simp); (try (with_reducible rfl)))
      try simp only [Act.put, List.setIfInBounds_toArray, List.set_cons_zero, List.set_cons_succ]
      refine ht_take 9 (v := ?va_8) rfl (by kernel_rfl) (fun _ _ _ h => h) (Or.inl ⟨by rfl, ?ha_8⟩) hHeld ?ra_8
      case ha_8 => ((intro U hSw; have z1 := (hSw.cell (p := ⟨b, k * 10 + 1, none⟩) hb).trans e1; have z8 := (hSw.cell (p := ⟨b, k * 10 + 8, none⟩) hb).trans e8; have z9 := (hSw.cell (p := ⟨b, k * 10 + 9, none⟩) hb).trans e9; go_simp); (try (with_reducible rfl)))
      try simp only [Act.put, List.setIfInBounds_toArray, List.set_cons_zero, List.set_cons_succ]
      refine ht_take 10 (v := ?va_9) rfl (by kernel_rfl) (fun _ _ _ h => h) (Or.inl ⟨by rfl, ?ha_9⟩) hHeld ?ra_9
      case ha_9 => ((intro U hSw; have z1 := (hSw.cell (p := ⟨b, k * 10 + 1, none⟩) hb).trans e1; have z8 := (hSw.cell (p := ⟨b, k * 10 + 8, none⟩) hb).trans e8; have z9 := (hSw.cell (p := ⟨b, k * 10 + 9, none⟩) hb).trans e9; go_simp); (try (with_reducible rfl)))
      try simp only [Act.put, List.setIfInBounds_toArray, List.set_cons_zero, List.set_cons_succ]
      refine ht_take 11 (v := ?va_10) rfl (by kernel_rfl) (fun _ _ _ h => h) (Or.inl ⟨by rfl, ?ha_10⟩) hHeld ?ra_10
      case ha_10 => ((intro U hSw; have z1 := (hSw.cell (p := ⟨b, k * 10 + 1, none⟩) hb).trans e1; have z8 := (hSw.cell (p := ⟨b, k * 10 + 8, none⟩) hb).trans e8; have z9 := (hSw.cell (p := ⟨b, k * 10 + 9, none⟩) hb).trans e9; go_simp); (try (with_reducible rfl)))
      try simp only [Act.put, List.setIfInBounds_toArray, List.set_cons_zero, List.set_cons_succ]
      refine ht_take 12 (v := ?va_11) rfl (by kernel_rfl) (fun _ _ _ h => h) (Or.inl ⟨by rfl, ?ha_11⟩) hHeld ?ra_11
      case ha_11 => ((intro U hSw; have z1 := (hSw.cell (p := ⟨b, k * 10 + 1, none⟩) hb).trans e1; have z8 := (hSw.cell (p := ⟨b, k * 10 + 8, none⟩) hb).trans e8; have z9 := (hSw.cell (p := ⟨b, k * 10 + 9, none⟩) hb).trans e9; go_simp); (try (with_reducible rfl)))
      try simp only [Act.put, List.setIfInBounds_toArray, List.set_cons_zero, List.set_cons_succ]
      refine ht_take 13 (v := ?va_12) rfl (by kernel_rfl) (fun _ _ _ h => h) (Or.inl ⟨by rfl, ?ha_12⟩) hHeld ?ra_12
      case ha_12 => ((intro U hSw; have z1 := (hSw.cell (p := ⟨b, k * 10 + 1, none⟩) hb).trans e1; have z8 := (hSw.cell (p := ⟨b, k * 10 + 8, none⟩) hb).trans e8; have z9 := (hSw.cell (p := ⟨b, k * 10 + 9, none⟩) hb).trans e9; go_simp); (try (with_reducible rfl)))
      try simp only [Act.put, List.setIfInBounds_toArray, List.set_cons_zero, List.set_cons_succ]
      refine ht_take 14 (v := ?va_13) rfl (by kernel_rfl) (fun _ _ _ h => h) (Or.inl ⟨by rfl, ?ha_13⟩) hHeld ?ra_13
      case ha_13 => ((intro U hSw; have z1 := (hSw.cell (p := ⟨b, k * 10 + 1, none⟩) hb).trans e1; have z8 := (hSw.cell (p := ⟨b, k * 10 + 8, none⟩) hb).trans e8; have z9 := (hSw.cell (p := ⟨b, k * 10 + 9, none⟩) hb).trans e9; go_simp); (try (with_reducible rfl)))
      try simp only [Act.put, List.setIfInBounds_toArray, List.set_cons_zero, List.set_cons_succ]
      refine ht_take 15 (v := ?va_14) rfl (by kernel_rfl) (fun _ _ _ h => h) (Or.inl ⟨by rfl, ?ha_14⟩) hHeld ?ra_14
      case ha_14 => ((intro U hSw; have z1 := (hSw.cell (p := ⟨b, k * 10 + 1, none⟩) hb).trans e1; have z8 := (hSw.cell (p := ⟨b, k * 10 + 8, none⟩) hb).trans e8; have z9 := (hSw.cell (p := ⟨b, k * 10 + 9, none⟩) hb).trans e9; go_simp); (try (with_reducible rfl)))
      try simp only [Act.put, List.setIfInBounds_toArray, List.set_cons_zero, List.set_cons_succ]
      refine ht_take 16 (v := ?va_15) rfl (by kernel_rfl) (fun _ _ _ h => h) (Or.inl ⟨by rfl, ?ha_15⟩) hHeld ?ra_15
      case ha_15 => ((intro U hSw; have z1 := (hSw.cell (p := ⟨b, k * 10 + 1, none⟩) hb).trans e1; have z8 := (hSw.cell (p := ⟨b, k * 10 + 8, none⟩) hb).trans e8; have z9 := (hSw.cell (p := ⟨b, k * 10 + 9, none⟩) hb).trans e9; go_simp); (try (with_reducible rfl)))
      try simp only [Act.put, List.setIfInBounds_toArray, List.set_cons_zero, List.set_cons_succ]
      refine ht_take 17 (v := ?va_16) rfl (by kernel_rfl) (fun _ _ _ h => h) (Or.inl ⟨by rfl, ?ha_16⟩) hHeld ?ra_16
      case ha_16 => ((intro U hSw; have z1 := (hSw.cell (p := ⟨b, k * 10 + 1, none⟩) hb).trans e1; have z8 := (hSw.cell (p := ⟨b, k * 10 + 8, none⟩) hb).trans e8; have z9 := (hSw.cell (p := ⟨b, k * 10 + 9, none⟩) hb).trans e9; go_simp); (try (with_reducible rfl)))
      try simp only [Act.put, List.setIfInBounds_toArray, List.set_cons_zero, List.set_cons_succ]
      refine ht_one 6 rfl (by kernel_rfl) (fun K hK => ?_)
      go_simp
      refine hK.out _ _ (hHeld.alloc hHeld.size _) (fun hHeld => ?_)
      clear hK K
      try simp only [Act.put, List.setIfInBounds_toArray, List.set_cons_zero, List.set_cons_succ]
      refine ht_one 7 rfl (by kernel_rfl) (fun K hK => ?_)
      refine step_append_lies _ (by rfl) (.tmp 15) (.tmp 21) _ (by rfl) w.heap.size 9 j0 _ 1 16 Try.underlying27 hj0 hy0 hy1 hy2 rfl (by omega) (.slice A cur.length c) cur.length (cur.map .string) (by rfl) ((own_below HO.out (Below.refl _ _).drew).alloc _) ⟨V.heap.size, 0, none⟩ 1 1 [.string x.id] (by rfl) (by rfl) (World.news_of_block (cs := #[.string x.id]) (t := 9) (fr := (0, 0)) (heap_alloc_new V.drew _)) (by simp [Value.oneCell']) (by omega) (by unfold maxLen; omega) (by omega) (by simp; omega) (V.heap.size + 1) (by simp) ?_
      intro gA cap w2 hown hgrow hat hlt2
      refine hK.out _ _ (hHeld.grown hgrow hHeld.size (fun j hj => (HO.out.lt j hj).1)) (fun hHeld => ?_)
      clear hK K
      try simp only [Act.put, List.setIfInBounds_toArray, List.set_cons_zero, List.set_cons_succ]
      refine ht_one 18 rfl (by kernel_rfl) (fun K hK => ?_)
      go_simp
      refine (HIX.out w2 _ _ (by rw [← HSUB.out]; omega) (Rd.below hHeld _ _ HX8.out) (Rd.below hHeld _ _ HX9.out)).mono ?_
      rintro e w3 ⟨A5, c5, rfl, hO5, hb3⟩
      rw [← HSUB.out] at hO5
      rw [← HSUB.out]
      go_wp2_with fail
      refine hK.out _ _ (hHeld.trans (hb3.mono hHeld.size)) (fun hHeld => ?_)
      clear hK K
      try simp only [Act.put, List.setIfInBounds_toArray, List.set_cons_zero, List.set_cons_succ]
      refine ht_done (by kernel_rfl) rfl ?_
      have hown3 := own_below hown hb3
      have hr5 := Reads.of_own hO5
      have HOWN3 := Lib.hid hown3
      have HR5 := Lib.hid hr5
      have HB3 := Lib.hid hHeld
      have hw3 := hHeld.size
      clear hown3 hr5 hHeld hown hgrow hat hb3 hO5
      go_wp2_with (at_builtin; refine wpList_append_any _ rfl (.tmp 22) (.tmp 33) _ rfl w.heap.size 9 j0 _ 1 16 Try.underlying27 hj0 hy0 hy1 hy2 rfl (by omega) (.slice (some ⟨gA, 0, none⟩) (cur.length + 1) cap) (cur.length + 1) (cur.map .string ++ [.string x.id]) rfl HOWN3.out _ A5 sub.length c5 _ rfl HR5.out (by intro u hu; obtain ⟨a, _, rfl⟩ := List.mem_map.1 hu; rfl) (by unfold maxLen; omega) (by omega) hw3 ?_)
      intro v6 w6 hown6 hgrow6 _
      have hlen6 : (cur ++ (x.id :: sub)).length = cur.length + 1 + sub.length := by simp; omega
      have hO6 : StrRow w (cur ++ (x.id :: sub)) v6 w6 := by
        unfold StrRow
        rw [hlen6]
        simpa using hown6
      have hB6 := HB3.out.grown hgrow6 hw3 (fun j hj => (HOWN3.out.lt j hj).1)
      obtain ⟨A6, c6, rfl, _, _⟩ := own_slice hO6
      have hst := HST.out
      rw [← HSUB.out] at hst
      have HN := Lib.hid (And.intro hst.symm (And.intro hO6 hB6))
      clear hlen6 hO6 hB6 hown6 hgrow6 hst
      go_wp2_with fail
      go_roundw
      case rel => exact ⟨k + 1, A6, c6, cur ++ (x.id :: sub), by omega, by go_num, rfl, HN.out.1, HN.out.2.1, HN.out.2.2⟩
      case measure => simp [intOf]; omega
    · have hkl : k = items.length := by omega
      rw [hkl, List.take_length] at hcur
      obtain ⟨pre, hpre⟩ : ∃ l, l = cur := ⟨_, rfl⟩
      rw [← hpre] at hcur HO
      rw [← hpre]
      have HCUR := Lib.hid hcur
      clear hcur hpre hkl
      go_wp2_with fail
      go_loopw [5, 7] (fun ov iv wr => InA2 w pre seqs ov iv wr) (fun _ iv _ => seqs.length - (intOf iv).toNat)
      case atStart => exact ⟨0, A, c, pre, Nat.zero_le _, rfl, rfl, by simp, HO.out, HB.out⟩
      case round =>
        clear HO HB
        obtain ⟨j, A2, c2, cur2, hj, rfl, rfl, hcur2, hO, hB⟩ := hrel
        obtain ⟨V2, rfl⟩ : ∃ V, V = wr := ⟨_, rfl⟩
        have HO := Lib.hid hO
        have HB := Lib.hid hB
        have hwV2 := hB.size
        clear hO hB
        by_cases hlt2 : j < seqs.length
        · obtain ⟨AQx, cQx, hvQ, _, _, hat⟩ := rd_at seqC_len HS.out
          injection hvQ with e1 _ e3
          subst e1
          subst e3
          obtain ⟨b, vs, rfl, hb, _, hvs, hcell⟩ := hat j hlt2
          obtain ⟨q, hq⟩ : ∃ q, q = seqs[j] := ⟨_, rfl⟩
          rw [← hq] at hvs
          obtain rfl := rd_seqC hvs
          have hst : pre ++ (seqs.take (j + 1)).map (·.id) = cur2 ++ [q.id] := by
            rw [List.take_succ_eq_append_getElem hlt2, List.map_append, ← List.append_assoc, ← hcur2, hq]
            rfl
          have hln : cur2.length ≤ 1000000 := by
            have h1 : cur2.length = pre.length + j := by rw [hcur2]; simp; omega
            have h2 := hlen
            rw [HIDS.out, List.length_append, List.length_map, ← HCUR.out] at h2
            omega
          have e0 : V2.cell? ⟨b, j * 3, none⟩ = some (.string q.id) := (HB.out.cell (p := ⟨b, j * 3, none⟩) hb).trans (hcell 0 (by omega))
          have HST := Lib.hid hst
          have hjI : (j : Int) < (seqs.length : Int) := by omega
          clear hat hvs hcell hq hst hcur2
          go_wp2_with (at_builtin; refine wpList_append_lies _ rfl (.tmp 41) (.tmp 47) _ rfl w.heap.size 9 j0 _ 1 16 Try.underlying27 hj0 hy0 hy1 hy2 rfl (by omega) (.slice A2 cur2.length c2) cur2.length (cur2.map .string) rfl (HO.out.alloc _) ⟨V2.heap.size, 0, none⟩ 1 1 [.string q.id] rfl rfl (World.news_of_block (cs := #[.string q.id]) (t := 9) (fr := (0, 0)) (heap_alloc_new V2 _)) (by simp [Value.oneCell']) (by omega) (by unfold maxLen; omega) (by omega) (by simp; omega) (V2.heap.size + 1) (by simp) ?_)
          intro gA cap w4 hown hgrow hat hlt'
          have hO4 : StrRow w (cur2 ++ [q.id]) (.slice (some ⟨gA, 0, none⟩) (cur2 ++ [q.id]).length cap) w4 := by
            unfold StrRow
            simpa using hown
          have hB4 := (HB.out.alloc hwV2 (.cells #[.string q.id] 9)).grown hgrow (by simp; omega) (fun j hj => (HO.out.lt j hj).1)
          have HN := Lib.hid (And.intro HST.out.symm (And.intro hO4 hB4))
          clear hO4 hB4 hown hgrow hat e0
          go_wp2_with fail
          go_roundw
          case rel => exact ⟨j + 1, some ⟨gA, 0, none⟩, cap, cur2 ++ [q.id], by omega, by go_num, by simp, HN.out.1, HN.out.2.1, HN.out.2.2⟩
          case measure => simp [intOf]; omega
        · have hjl : j = seqs.length := by omega
          rw [hjl, List.take_length] at hcur2
          have hfin : cur2 = ids := by rw [hcur2, HIDS.out, HCUR.out]
          subst hfin
          clear hcur2 hjl
          go_wp2_with fail
          go_ret
          exact ⟨A2, c2, rfl, HO.out, HB.out⟩
theorem all_any : ∀ (n : Nat) (items : List ItemD) (seqs : List SeqD), depL items ≤ n → AllOk items seqs
  | 0, [], seqs, _ => all_step [] seqs (fun x hx => by cases hx)
  | 0, x :: l, seqs, h => by
    have h1 := depL_mem (List.mem_cons_self (a := x) (l := l))
    rw [depI_eq] at h1
    omega
  | n + 1, items, seqs, h => all_step items seqs (fun x hx => all_any n x.items x.seqs (by
    have h1 := depL_mem hx
    rw [depI_eq] at h1
    omega))
end Go.Proofs.Ytljmghaplnkohaa
