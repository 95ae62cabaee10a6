/- The contracts of SameTexts, SameSeqs, SameItems, SameChor, on what is the same. -/
import Derived.Test.YteoioboiniealaaReg
import Derived.Test.YteoioboiniealaaBlk
import Derived.Test.YteoioboiniealaaGenB
import Derived.Deep.QuietTactic
import Derived.Deep.DeepCutAuto
import Derived.Deep.CutBlock
namespace Go.Proofs.Yteoioboiniealaa
open Go.RowKit

set_option maxHeartbeats 1000000 in
theorem same_texts {w : World} {v1 v2 : Value} {l : List ByteArray} (h1 : Rd w (strsD l) v1) (h2 : Rd w (strsD l) v2) :
    Calls Try.prog 36 #[v1, v2] w fun e w' => e = .returned (.bool true) ∧ Below w.heap.size w w' := by
  obtain ⟨A1, c1, rfl, hlc1, hcm1, hat1⟩ := rd_at strC_len h1
  obtain ⟨A2, c2, rfl, hlc2, hcm2, hat2⟩ := rd_at strC_len h2
  have hmx : l.length ≤ maxLen := by omega
  unfold maxLen at hmx
  have HAT1 := Lib.hid hat1
  have HAT2 := Lib.hid hat2
  clear hat1 hat2 h1 h2 hcm1 hcm2
  go_enter Try.func36, Try.ntmps36
  go_wp2_with fail
  go_loopw [5] (fun v wr => ∃ k : Nat, k ≤ l.length ∧ v = .int .i64 k ∧ Below w.heap.size w wr) (fun v _ => l.length - (intOf v).toNat)
  case atStart => exact ⟨0, Nat.zero_le _, rfl, Below.refl _ _⟩
  case round =>
    obtain ⟨k, hk, rfl, hB⟩ := hrel
    have HB := Lib.hid hB
    have hsz := hB.size
    clear hB
    by_cases hlt : k < l.length
    · obtain ⟨b1, vs1, rfl, hbl1, _, hvs1, hcell1⟩ := HAT1.out k hlt
      obtain ⟨b2, vs2, rfl, hbl2, _, hvs2, hcell2⟩ := HAT2.out k hlt
      generalize l[k] = x at *
      obtain rfl := rd_strC hvs1
      obtain rfl := rd_strC hvs2
      have x0 : wr.cell? ⟨b1, k, none⟩ = some (.string x) := (HB.out.cell (p := ⟨b1, k, none⟩) hbl1).trans (by have := hcell1 0 (by omega); simpa using this)
      have z0 : wr.cell? ⟨b2, k, none⟩ = some (.string x) := (HB.out.cell (p := ⟨b2, k, none⟩) hbl2).trans (by have := hcell2 0 (by omega); simpa using this)
      clear hcell1 hcell2 hvs1 hvs2
      go_upto_region 6 with fail
      go_quiet (fail)
      go_wp2_with fail
      go_roundw
      case rel => exact ⟨k + 1, by omega, by go_num, below_drewN HB.out _⟩
      case measure => simp [intOf]; omega
    · go_wp2_with fail
      go_ret
      exact ⟨rfl, HB.out⟩

set_option maxHeartbeats 1000000 in
theorem same_seqs {w : World} {v1 v2 : Value} {l : List SeqD} (h1 : Rd w (seqsD l) v1) (h2 : Rd w (seqsD l) v2) :
    Calls Try.prog 50 #[v1, v2] w fun e w' => e = .returned (.bool true) ∧ Below w.heap.size w w' := by
  obtain ⟨A1, c1, rfl, hlc1, hcm1, hat1⟩ := rd_at seqC_len h1
  obtain ⟨A2, c2, rfl, hlc2, hcm2, hat2⟩ := rd_at seqC_len h2
  have hmx : l.length ≤ maxLen := by omega
  unfold maxLen at hmx
  have HAT1 := Lib.hid hat1
  have HAT2 := Lib.hid hat2
  clear hat1 hat2 h1 h2 hcm1 hcm2
  go_enter Try.func50, Try.ntmps50
  go_wp2_with fail
  go_loopw [5] (fun v wr => ∃ k : Nat, k ≤ l.length ∧ v = .int .i64 k ∧ Below w.heap.size w wr) (fun v _ => l.length - (intOf v).toNat)
  case atStart => exact ⟨0, Nat.zero_le _, rfl, Below.refl _ _⟩
  case round =>
    obtain ⟨k, hk, rfl, hB⟩ := hrel
    have HB := Lib.hid hB
    have hsz := hB.size
    clear hB
    by_cases hlt : k < l.length
    · obtain ⟨b1, vs1, rfl, hbl1, _, hvs1, hcell1⟩ := HAT1.out k hlt
      obtain ⟨b2, vs2, rfl, hbl2, _, hvs2, hcell2⟩ := HAT2.out k hlt
      generalize l[k] = x at *
      obtain rfl := rd_seqC hvs1
      obtain rfl := rd_seqC hvs2
      have x0 : wr.cell? ⟨b1, k * 3, none⟩ = some (.string x.id) := (HB.out.cell (p := ⟨b1, k * 3, none⟩) hbl1).trans (hcell1 0 (by omega))
      have z0 : wr.cell? ⟨b2, k * 3, none⟩ = some (.string x.id) := (HB.out.cell (p := ⟨b2, k * 3, none⟩) hbl2).trans (hcell2 0 (by omega))
      have x1 : wr.cell? ⟨b1, k * 3 + 1, none⟩ = some (.string x.src) := (HB.out.cell (p := ⟨b1, k * 3 + 1, none⟩) hbl1).trans (hcell1 1 (by omega))
      have z1 : wr.cell? ⟨b2, k * 3 + 1, none⟩ = some (.string x.src) := (HB.out.cell (p := ⟨b2, k * 3 + 1, none⟩) hbl2).trans (hcell2 1 (by omega))
      have x2 : wr.cell? ⟨b1, k * 3 + 2, none⟩ = some (.string x.dst) := (HB.out.cell (p := ⟨b1, k * 3 + 2, none⟩) hbl1).trans (hcell1 2 (by omega))
      have z2 : wr.cell? ⟨b2, k * 3 + 2, none⟩ = some (.string x.dst) := (HB.out.cell (p := ⟨b2, k * 3 + 2, none⟩) hbl2).trans (hcell2 2 (by omega))
      clear hcell1 hcell2 hvs1 hvs2
      go_upto_region 6 with fail
      go_quiet (fail)
      go_wp2_with fail
      go_roundw
      case rel => exact ⟨k + 1, by omega, by go_num, below_drewN HB.out _⟩
      case measure => simp [intOf]; omega
    · go_wp2_with fail
      go_ret
      exact ⟨rfl, HB.out⟩

mutual
/-- How deep items lie within items. -/
def depI : ItemD → Nat
  | ⟨_, _, _, _, _, _, _, _, items, _⟩ => depL items + 1
def depL : List ItemD → Nat
  | [] => 0
  | x :: l => max (depI x) (depL l)
end
theorem depI_eq (x : ItemD) : depI x = depL x.items + 1 := by
  obtain ⟨_, _, _, _, _, _, _, _, items, _⟩ := x
  rw [depI]
theorem depL_at : ∀ (l : List ItemD) (k : Nat) (h : k < l.length), depL l[k].items + 1 ≤ depL l
  | x :: l, 0, _ => by
    rw [depL]
    have := depI_eq x
    simp only [List.getElem_cons_zero]
    omega
  | x :: l, k + 1, h => by
    rw [depL]
    have := depL_at l k (by simpa using h)
    simp only [List.getElem_cons_succ]
    omega
theorem rd_formS {α : Type} {w : World} {e sz : Nat} {f : α → List Dat} {l : List α} {v : Value} (h : Rd w (datS e sz f l) v) : ∃ A c, v = .slice A l.length c := by
  obtain ⟨A, c, _, rfl, _⟩ := rd_sl.1 h
  exact ⟨A, c, rfl⟩
/-- The contract of SameItems, so deep. -/
def SameC (n : Nat) : Prop := ∀ (l : List ItemD), depL l ≤ n → ∀ (w : World) (v1 v2 : Value), Rd w (itemsD l) v1 → Rd w (itemsD l) v2 →
  Calls Try.prog 49 #[v1, v2] w fun e w' => e = .returned (.bool true) ∧ Below w.heap.size w w'
set_option maxRecDepth 100000 in
set_option maxHeartbeats 8000000 in
theorem same_step (n : Nat) (IH : ∀ e, n = e + 1 → SameC e) : SameC n := by
  intro l hdl w v1 v2 h1 h2
  obtain ⟨A1, c1, rfl, hlc1, hcm1, hat1⟩ := rd_at itemC_len h1
  obtain ⟨A2, c2, rfl, hlc2, hcm2, hat2⟩ := rd_at itemC_len h2
  have hmx : l.length ≤ maxLen := by omega
  unfold maxLen at hmx
  have HAT1 := Lib.hid hat1
  have HAT2 := Lib.hid hat2
  have HIH := Lib.hid IH
  have HDL := Lib.hid hdl
  clear hat1 hat2 h1 h2 hcm1 hcm2 IH hdl
  go_enter Try.func49, Try.ntmps49
  go_wp2_with fail
  go_loopw [5] (fun v wr => ∃ k : Nat, k ≤ l.length ∧ v = .int .i64 k ∧ Below w.heap.size w wr) (fun v _ => l.length - (intOf v).toNat)
  case atStart => exact ⟨0, Nat.zero_le _, rfl, Below.refl _ _⟩
  case round =>
    obtain ⟨k, hk, rfl, hB⟩ := hrel
    have HB := Lib.hid hB
    have hsz := hB.size
    clear hB
    by_cases hlt : k < l.length
    · have hdk := depL_at l k hlt
      have hdl := HDL.out
      obtain ⟨e, he⟩ : ∃ e, n = e + 1 := ⟨n - 1, by omega⟩
      have hdx : depL l[k].items ≤ e := by omega
      have HIH2 := Lib.hid (HIH.out e he)
      clear hdk hdl he
      obtain ⟨b1, vs1, rfl, hbl1, _, hvs1, hcell1⟩ := HAT1.out k hlt
      obtain ⟨b2, vs2, rfl, hbl2, _, hvs2, hcell2⟩ := HAT2.out k hlt
      generalize l[k] = x at *
      obtain ⟨vP1, vF1, vM1, vI1, vS1, rfl, hV1⟩ := rd_itemC.1 hvs1
      obtain ⟨vP2, vF2, vM2, vI2, vS2, rfl, hV2⟩ := rd_itemC.1 hvs2
      obtain ⟨P1, p1, rfl⟩ := rd_formS hV1.1
      obtain ⟨F1, f1, rfl⟩ := rd_formS hV1.2.1
      obtain ⟨M1, m1, rfl⟩ := rd_formS hV1.2.2.1
      obtain ⟨I1, i1, rfl⟩ := rd_formS hV1.2.2.2.1
      obtain ⟨S1, s1, rfl⟩ := rd_formS hV1.2.2.2.2
      obtain ⟨P2, p2, rfl⟩ := rd_formS hV2.1
      obtain ⟨F2, f2, rfl⟩ := rd_formS hV2.2.1
      obtain ⟨M2, m2, rfl⟩ := rd_formS hV2.2.2.1
      obtain ⟨I2, i2, rfl⟩ := rd_formS hV2.2.2.2.1
      obtain ⟨S2, s2, rfl⟩ := rd_formS hV2.2.2.2.2
      have xa0 : wr.cell? ⟨b1, k * 10, none⟩ = some (.int .i64 x.kind) := (HB.out.cell (p := ⟨b1, k * 10, none⟩) hbl1).trans (hcell1 0 (by omega))
      have xa1 : wr.cell? ⟨b1, k * 10 + 1, none⟩ = some (.string x.id) := (HB.out.cell (p := ⟨b1, k * 10 + 1, none⟩) hbl1).trans (hcell1 1 (by omega))
      have xa2 : wr.cell? ⟨b1, k * 10 + 2, none⟩ = some (.string x.first) := (HB.out.cell (p := ⟨b1, k * 10 + 2, none⟩) hbl1).trans (hcell1 2 (by omega))
      have xa3 : wr.cell? ⟨b1, k * 10 + 3, none⟩ = some (.slice P1 x.parts.length p1) := (HB.out.cell (p := ⟨b1, k * 10 + 3, none⟩) hbl1).trans (hcell1 3 (by omega))
      have xa4 : wr.cell? ⟨b1, k * 10 + 4, none⟩ = some (.slice F1 x.flows.length f1) := (HB.out.cell (p := ⟨b1, k * 10 + 4, none⟩) hbl1).trans (hcell1 4 (by omega))
      have xa5 : wr.cell? ⟨b1, k * 10 + 5, none⟩ = some (.bool x.loop) := (HB.out.cell (p := ⟨b1, k * 10 + 5, none⟩) hbl1).trans (hcell1 5 (by omega))
      have xa6 : wr.cell? ⟨b1, k * 10 + 6, none⟩ = some (.string x.called) := (HB.out.cell (p := ⟨b1, k * 10 + 6, none⟩) hbl1).trans (hcell1 6 (by omega))
      have xa7 : wr.cell? ⟨b1, k * 10 + 7, none⟩ = some (.slice M1 x.maps.length m1) := (HB.out.cell (p := ⟨b1, k * 10 + 7, none⟩) hbl1).trans (hcell1 7 (by omega))
      have xa8 : wr.cell? ⟨b1, k * 10 + 8, none⟩ = some (.slice I1 x.items.length i1) := (HB.out.cell (p := ⟨b1, k * 10 + 8, none⟩) hbl1).trans (hcell1 8 (by omega))
      have xa9 : wr.cell? ⟨b1, k * 10 + 9, none⟩ = some (.slice S1 x.seqs.length s1) := (HB.out.cell (p := ⟨b1, k * 10 + 9, none⟩) hbl1).trans (hcell1 9 (by omega))
      have xc0 : wr.cell? ⟨b2, k * 10, none⟩ = some (.int .i64 x.kind) := (HB.out.cell (p := ⟨b2, k * 10, none⟩) hbl2).trans (hcell2 0 (by omega))
      have xc1 : wr.cell? ⟨b2, k * 10 + 1, none⟩ = some (.string x.id) := (HB.out.cell (p := ⟨b2, k * 10 + 1, none⟩) hbl2).trans (hcell2 1 (by omega))
      have xc2 : wr.cell? ⟨b2, k * 10 + 2, none⟩ = some (.string x.first) := (HB.out.cell (p := ⟨b2, k * 10 + 2, none⟩) hbl2).trans (hcell2 2 (by omega))
      have xc3 : wr.cell? ⟨b2, k * 10 + 3, none⟩ = some (.slice P2 x.parts.length p2) := (HB.out.cell (p := ⟨b2, k * 10 + 3, none⟩) hbl2).trans (hcell2 3 (by omega))
      have xc4 : wr.cell? ⟨b2, k * 10 + 4, none⟩ = some (.slice F2 x.flows.length f2) := (HB.out.cell (p := ⟨b2, k * 10 + 4, none⟩) hbl2).trans (hcell2 4 (by omega))
      have xc5 : wr.cell? ⟨b2, k * 10 + 5, none⟩ = some (.bool x.loop) := (HB.out.cell (p := ⟨b2, k * 10 + 5, none⟩) hbl2).trans (hcell2 5 (by omega))
      have xc6 : wr.cell? ⟨b2, k * 10 + 6, none⟩ = some (.string x.called) := (HB.out.cell (p := ⟨b2, k * 10 + 6, none⟩) hbl2).trans (hcell2 6 (by omega))
      have xc7 : wr.cell? ⟨b2, k * 10 + 7, none⟩ = some (.slice M2 x.maps.length m2) := (HB.out.cell (p := ⟨b2, k * 10 + 7, none⟩) hbl2).trans (hcell2 7 (by omega))
      have xc8 : wr.cell? ⟨b2, k * 10 + 8, none⟩ = some (.slice I2 x.items.length i2) := (HB.out.cell (p := ⟨b2, k * 10 + 8, none⟩) hbl2).trans (hcell2 8 (by omega))
      have xc9 : wr.cell? ⟨b2, k * 10 + 9, none⟩ = some (.slice S2 x.seqs.length s2) := (HB.out.cell (p := ⟨b2, k * 10 + 9, none⟩) hbl2).trans (hcell2 9 (by omega))
      have HP1 := Lib.hid hV1.1
      have HF1 := Lib.hid hV1.2.1
      have HM1 := Lib.hid hV1.2.2.1
      have HI1 := Lib.hid hV1.2.2.2.1
      have HS1 := Lib.hid hV1.2.2.2.2
      have HP2 := Lib.hid hV2.1
      have HF2 := Lib.hid hV2.2.1
      have HM2 := Lib.hid hV2.2.2.1
      have HI2 := Lib.hid hV2.2.2.2.1
      have HS2 := Lib.hid hV2.2.2.2.2
      have HA0 := Lib.hid xa0
      have HC0 := Lib.hid xc0
      have HA1 := Lib.hid xa1
      have HC1 := Lib.hid xc1
      have HA2 := Lib.hid xa2
      have HC2 := Lib.hid xc2
      have HA3 := Lib.hid xa3
      have HC3 := Lib.hid xc3
      have HA4 := Lib.hid xa4
      have HC4 := Lib.hid xc4
      have HA5 := Lib.hid xa5
      have HC5 := Lib.hid xc5
      have HA6 := Lib.hid xa6
      have HC6 := Lib.hid xc6
      have HA7 := Lib.hid xa7
      have HC7 := Lib.hid xc7
      have HA8 := Lib.hid xa8
      have HC8 := Lib.hid xc8
      have HA9 := Lib.hid xa9
      have HC9 := Lib.hid xc9
      have hb1w := Nat.lt_of_lt_of_le hbl1 hsz
      have hb2w := Nat.lt_of_lt_of_le hbl2 hsz
      have d0 := (Below.refl wr.heap.size wr).drew
      clear hcell1 hcell2 hvs1 hvs2 hV1 hV2 xa0 xc0 xa1 xc1 xa2 xc2 xa3 xc3 xa4 xc4 xa5 xc5 xa6 xc6 xa7 xc7 xa8 xc8 xa9 xc9
      go_upto_region 6 with fail
      go_cut [6, 7] (fun va vb wx => ∃ gx gy, va = .pointer (some ⟨gx, 0, none⟩) ∧ vb = .pointer (some ⟨gy, 0, none⟩) ∧ Blk wx gx 33 #[.int .i64 x.kind, .string x.id, .string x.first, .slice P1 x.parts.length p1, .slice F1 x.flows.length f1, .bool x.loop, .string x.called, .slice M1 x.maps.length m1, .slice I1 x.items.length i1, .slice S1 x.seqs.length s1] ∧ Blk wx gy 33 #[.int .i64 x.kind, .string x.id, .string x.first, .slice P2 x.parts.length p2, .slice F2 x.flows.length f2, .bool x.loop, .string x.called, .slice M2 x.maps.length m2, .slice I2 x.items.length i2, .slice S2 x.seqs.length s2] ∧ Below w.heap.size w wx)
      case first =>
        refine wp_region_HT 11 (fun U => Below wr.heap.size wr U) (by kernel_rfl) (by decide) (d0) (fun hHeld => ?_)
        refine ht_take 0 (v := ?va_1) rfl (by kernel_rfl) (fun _ _ _ h => h) (Or.inl ⟨by rfl, ?ha_1⟩) hHeld ?ra_1
        case ha_1 => ((intro U hSw; have u0 := (hSw.cell (p := ⟨b1, k * 10, none⟩) hb1w).trans HA0.out; have t0 := (hSw.cell (p := ⟨b2, k * 10, none⟩) hb2w).trans HC0.out; have u1 := (hSw.cell (p := ⟨b1, k * 10 + 1, none⟩) hb1w).trans HA1.out; have t1 := (hSw.cell (p := ⟨b2, k * 10 + 1, none⟩) hb2w).trans HC1.out; have u2 := (hSw.cell (p := ⟨b1, k * 10 + 2, none⟩) hb1w).trans HA2.out; have t2 := (hSw.cell (p := ⟨b2, k * 10 + 2, none⟩) hb2w).trans HC2.out; have u3 := (hSw.cell (p := ⟨b1, k * 10 + 3, none⟩) hb1w).trans HA3.out; have t3 := (hSw.cell (p := ⟨b2, k * 10 + 3, none⟩) hb2w).trans HC3.out; have u4 := (hSw.cell (p := ⟨b1, k * 10 + 4, none⟩) hb1w).trans HA4.out; have t4 := (hSw.cell (p := ⟨b2, k * 10 + 4, none⟩) hb2w).trans HC4.out; have u5 := (hSw.cell (p := ⟨b1, k * 10 + 5, none⟩) hb1w).trans HA5.out; have t5 := (hSw.cell (p := ⟨b2, k * 10 + 5, none⟩) hb2w).trans HC5.out; have u6 := (hSw.cell (p := ⟨b1, k * 10 + 6, none⟩) hb1w).trans HA6.out; have t6 := (hSw.cell (p := ⟨b2, k * 10 + 6, none⟩) hb2w).trans HC6.out; have u7 := (hSw.cell (p := ⟨b1, k * 10 + 7, none⟩) hb1w).trans HA7.out; have t7 := (hSw.cell (p := ⟨b2, k * 10 + 7, none⟩) hb2w).trans HC7.out; have u8 := (hSw.cell (p := ⟨b1, k * 10 + 8, none⟩) hb1w).trans HA8.out; have t8 := (hSw.cell (p := ⟨b2, k * 10 + 8, none⟩) hb2w).trans HC8.out; have u9 := (hSw.cell (p := ⟨b1, k * 10 + 9, none⟩) hb1w).trans HA9.out; have t9 := (hSw.cell (p := ⟨b2, k * 10 + 9, none⟩) hb2w).trans HC9.out; go_simp); (try (with_reducible rfl)))
        try simp only [Act.put, List.setIfInBounds_toArray, List.set_cons_zero, List.set_cons_succ]
        refine ht_take 1 (v := ?va_2) rfl (by kernel_rfl) (fun _ _ _ h => h) (Or.inl ⟨by rfl, ?ha_2⟩) hHeld ?ra_2
        case ha_2 => ((intro U hSw; have u0 := (hSw.cell (p := ⟨b1, k * 10, none⟩) hb1w).trans HA0.out; have t0 := (hSw.cell (p := ⟨b2, k * 10, none⟩) hb2w).trans HC0.out; have u1 := (hSw.cell (p := ⟨b1, k * 10 + 1, none⟩) hb1w).trans HA1.out; have t1 := (hSw.cell (p := ⟨b2, k * 10 + 1, none⟩) hb2w).trans HC1.out; have u2 := (hSw.cell (p := ⟨b1, k * 10 + 2, none⟩) hb1w).trans HA2.out; have t2 := (hSw.cell (p := ⟨b2, k * 10 + 2, none⟩) hb2w).trans HC2.out; have u3 := (hSw.cell (p := ⟨b1, k * 10 + 3, none⟩) hb1w).trans HA3.out; have t3 := (hSw.cell (p := ⟨b2, k * 10 + 3, none⟩) hb2w).trans HC3.out; have u4 := (hSw.cell (p := ⟨b1, k * 10 + 4, none⟩) hb1w).trans HA4.out; have t4 := (hSw.cell (p := ⟨b2, k * 10 + 4, none⟩) hb2w).trans HC4.out; have u5 := (hSw.cell (p := ⟨b1, k * 10 + 5, none⟩) hb1w).trans HA5.out; have t5 := (hSw.cell (p := ⟨b2, k * 10 + 5, none⟩) hb2w).trans HC5.out; have u6 := (hSw.cell (p := ⟨b1, k * 10 + 6, none⟩) hb1w).trans HA6.out; have t6 := (hSw.cell (p := ⟨b2, k * 10 + 6, none⟩) hb2w).trans HC6.out; have u7 := (hSw.cell (p := ⟨b1, k * 10 + 7, none⟩) hb1w).trans HA7.out; have t7 := (hSw.cell (p := ⟨b2, k * 10 + 7, none⟩) hb2w).trans HC7.out; have u8 := (hSw.cell (p := ⟨b1, k * 10 + 8, none⟩) hb1w).trans HA8.out; have t8 := (hSw.cell (p := ⟨b2, k * 10 + 8, none⟩) hb2w).trans HC8.out; have u9 := (hSw.cell (p := ⟨b1, k * 10 + 9, none⟩) hb1w).trans HA9.out; have t9 := (hSw.cell (p := ⟨b2, k * 10 + 9, none⟩) hb2w).trans HC9.out; go_simp); (try (with_reducible rfl)))
        try simp only [Act.put, List.setIfInBounds_toArray, List.set_cons_zero, List.set_cons_succ]
        refine ht_take 2 (v := ?va_3) rfl (by kernel_rfl) (fun _ _ _ h => h) (Or.inl ⟨by rfl, ?ha_3⟩) hHeld ?ra_3
        case ha_3 => ((intro U hSw; have u0 := (hSw.cell (p := ⟨b1, k * 10, none⟩) hb1w).trans HA0.out; have t0 := (hSw.cell (p := ⟨b2, k * 10, none⟩) hb2w).trans HC0.out; have u1 := (hSw.cell (p := ⟨b1, k * 10 + 1, none⟩) hb1w).trans HA1.out; have t1 := (hSw.cell (p := ⟨b2, k * 10 + 1, none⟩) hb2w).trans HC1.out; have u2 := (hSw.cell (p := ⟨b1, k * 10 + 2, none⟩) hb1w).trans HA2.out; have t2 := (hSw.cell (p := ⟨b2, k * 10 + 2, none⟩) hb2w).trans HC2.out; have u3 := (hSw.cell (p := ⟨b1, k * 10 + 3, none⟩) hb1w).trans HA3.out; have t3 := (hSw.cell (p := ⟨b2, k * 10 + 3, none⟩) hb2w).trans HC3.out; have u4 := (hSw.cell (p := ⟨b1, k * 10 + 4, none⟩) hb1w).trans HA4.out; have t4 := (hSw.cell (p := ⟨b2, k * 10 + 4, none⟩) hb2w).trans HC4.out; have u5 := (hSw.cell (p := ⟨b1, k * 10 + 5, none⟩) hb1w).trans HA5.out; have t5 := (hSw.cell (p := ⟨b2, k * 10 + 5, none⟩) hb2w).trans HC5.out; have u6 := (hSw.cell (p := ⟨b1, k * 10 + 6, none⟩) hb1w).trans HA6.out; have t6 := (hSw.cell (p := ⟨b2, k * 10 + 6, none⟩) hb2w).trans HC6.out; have u7 := (hSw.cell (p := ⟨b1, k * 10 + 7, none⟩) hb1w).trans HA7.out; have t7 := (hSw.cell (p := ⟨b2, k * 10 + 7, none⟩) hb2w).trans HC7.out; have u8 := (hSw.cell (p := ⟨b1, k * 10 + 8, none⟩) hb1w).trans HA8.out; have t8 := (hSw.cell (p := ⟨b2, k * 10 + 8, none⟩) hb2w).trans HC8.out; have u9 := (hSw.cell (p := ⟨b1, k * 10 + 9, none⟩) hb1w).trans HA9.out; have t9 := (hSw.cell (p := ⟨b2, k * 10 + 9, none⟩) hb2w).trans HC9.out; go_simp); (try (with_reducible rfl)))
        try simp only [Act.put, List.setIfInBounds_toArray, List.set_cons_zero, List.set_cons_succ]
        refine ht_take 3 (v := ?va_4) rfl (by kernel_rfl) (fun _ _ _ h => h) (Or.inl ⟨by rfl, ?ha_4⟩) hHeld ?ra_4
        case ha_4 => ((intro U hSw; have u0 := (hSw.cell (p := ⟨b1, k * 10, none⟩) hb1w).trans HA0.out; have t0 := (hSw.cell (p := ⟨b2, k * 10, none⟩) hb2w).trans HC0.out; have u1 := (hSw.cell (p := ⟨b1, k * 10 + 1, none⟩) hb1w).trans HA1.out; have t1 := (hSw.cell (p := ⟨b2, k * 10 + 1, none⟩) hb2w).trans HC1.out; have u2 := (hSw.cell (p := ⟨b1, k * 10 + 2, none⟩) hb1w).trans HA2.out; have t2 := (hSw.cell (p := ⟨b2, k * 10 + 2, none⟩) hb2w).trans HC2.out; have u3 := (hSw.cell (p := ⟨b1, k * 10 + 3, none⟩) hb1w).trans HA3.out; have t3 := (hSw.cell (p := ⟨b2, k * 10 + 3, none⟩) hb2w).trans HC3.out; have u4 := (hSw.cell (p := ⟨b1, k * 10 + 4, none⟩) hb1w).trans HA4.out; have t4 := (hSw.cell (p := ⟨b2, k * 10 + 4, none⟩) hb2w).trans HC4.out; have u5 := (hSw.cell (p := ⟨b1, k * 10 + 5, none⟩) hb1w).trans HA5.out; have t5 := (hSw.cell (p := ⟨b2, k * 10 + 5, none⟩) hb2w).trans HC5.out; have u6 := (hSw.cell (p := ⟨b1, k * 10 + 6, none⟩) hb1w).trans HA6.out; have t6 := (hSw.cell (p := ⟨b2, k * 10 + 6, none⟩) hb2w).trans HC6.out; have u7 := (hSw.cell (p := ⟨b1, k * 10 + 7, none⟩) hb1w).trans HA7.out; have t7 := (hSw.cell (p := ⟨b2, k * 10 + 7, none⟩) hb2w).trans HC7.out; have u8 := (hSw.cell (p := ⟨b1, k * 10 + 8, none⟩) hb1w).trans HA8.out; have t8 := (hSw.cell (p := ⟨b2, k * 10 + 8, none⟩) hb2w).trans HC8.out; have u9 := (hSw.cell (p := ⟨b1, k * 10 + 9, none⟩) hb1w).trans HA9.out; have t9 := (hSw.cell (p := ⟨b2, k * 10 + 9, none⟩) hb2w).trans HC9.out; go_simp); (try (with_reducible rfl)))
        try simp only [Act.put, List.setIfInBounds_toArray, List.set_cons_zero, List.set_cons_succ]
        refine ht_take 4 (v := ?va_5) rfl (by kernel_rfl) (fun _ _ _ h => h) (Or.inl ⟨by rfl, ?ha_5⟩) hHeld ?ra_5
        case ha_5 => ((intro U hSw; have u0 := (hSw.cell (p := ⟨b1, k * 10, none⟩) hb1w).trans HA0.out; have t0 := (hSw.cell (p := ⟨b2, k * 10, none⟩) hb2w).trans HC0.out; have u1 := (hSw.cell (p := ⟨b1, k * 10 + 1, none⟩) hb1w).trans HA1.out; have t1 := (hSw.cell (p := ⟨b2, k * 10 + 1, none⟩) hb2w).trans HC1.out; have u2 := (hSw.cell (p := ⟨b1, k * 10 + 2, none⟩) hb1w).trans HA2.out; have t2 := (hSw.cell (p := ⟨b2, k * 10 + 2, none⟩) hb2w).trans HC2.out; have u3 := (hSw.cell (p := ⟨b1, k * 10 + 3, none⟩) hb1w).trans HA3.out; have t3 := (hSw.cell (p := ⟨b2, k * 10 + 3, none⟩) hb2w).trans HC3.out; have u4 := (hSw.cell (p := ⟨b1, k * 10 + 4, none⟩) hb1w).trans HA4.out; have t4 := (hSw.cell (p := ⟨b2, k * 10 + 4, none⟩) hb2w).trans HC4.out; have u5 := (hSw.cell (p := ⟨b1, k * 10 + 5, none⟩) hb1w).trans HA5.out; have t5 := (hSw.cell (p := ⟨b2, k * 10 + 5, none⟩) hb2w).trans HC5.out; have u6 := (hSw.cell (p := ⟨b1, k * 10 + 6, none⟩) hb1w).trans HA6.out; have t6 := (hSw.cell (p := ⟨b2, k * 10 + 6, none⟩) hb2w).trans HC6.out; have u7 := (hSw.cell (p := ⟨b1, k * 10 + 7, none⟩) hb1w).trans HA7.out; have t7 := (hSw.cell (p := ⟨b2, k * 10 + 7, none⟩) hb2w).trans HC7.out; have u8 := (hSw.cell (p := ⟨b1, k * 10 + 8, none⟩) hb1w).trans HA8.out; have t8 := (hSw.cell (p := ⟨b2, k * 10 + 8, none⟩) hb2w).trans HC8.out; have u9 := (hSw.cell (p := ⟨b1, k * 10 + 9, none⟩) hb1w).trans HA9.out; have t9 := (hSw.cell (p := ⟨b2, k * 10 + 9, none⟩) hb2w).trans HC9.out; go_simp); (try (with_reducible rfl)))
        try simp only [Act.put, List.setIfInBounds_toArray, List.set_cons_zero, List.set_cons_succ]
        refine ht_take 5 (v := ?va_6) rfl (by kernel_rfl) (fun _ _ _ h => h) (Or.inl ⟨by rfl, ?ha_6⟩) hHeld ?ra_6
        case ha_6 => ((intro U hSw; have u0 := (hSw.cell (p := ⟨b1, k * 10, none⟩) hb1w).trans HA0.out; have t0 := (hSw.cell (p := ⟨b2, k * 10, none⟩) hb2w).trans HC0.out; have u1 := (hSw.cell (p := ⟨b1, k * 10 + 1, none⟩) hb1w).trans HA1.out; have t1 := (hSw.cell (p := ⟨b2, k * 10 + 1, none⟩) hb2w).trans HC1.out; have u2 := (hSw.cell (p := ⟨b1, k * 10 + 2, none⟩) hb1w).trans HA2.out; have t2 := (hSw.cell (p := ⟨b2, k * 10 + 2, none⟩) hb2w).trans HC2.out; have u3 := (hSw.cell (p := ⟨b1, k * 10 + 3, none⟩) hb1w).trans HA3.out; have t3 := (hSw.cell (p := ⟨b2, k * 10 + 3, none⟩) hb2w).trans HC3.out; have u4 := (hSw.cell (p := ⟨b1, k * 10 + 4, none⟩) hb1w).trans HA4.out; have t4 := (hSw.cell (p := ⟨b2, k * 10 + 4, none⟩) hb2w).trans HC4.out; have u5 := (hSw.cell (p := ⟨b1, k * 10 + 5, none⟩) hb1w).trans HA5.out; have t5 := (hSw.cell (p := ⟨b2, k * 10 + 5, none⟩) hb2w).trans HC5.out; have u6 := (hSw.cell (p := ⟨b1, k * 10 + 6, none⟩) hb1w).trans HA6.out; have t6 := (hSw.cell (p := ⟨b2, k * 10 + 6, none⟩) hb2w).trans HC6.out; have u7 := (hSw.cell (p := ⟨b1, k * 10 + 7, none⟩) hb1w).trans HA7.out; have t7 := (hSw.cell (p := ⟨b2, k * 10 + 7, none⟩) hb2w).trans HC7.out; have u8 := (hSw.cell (p := ⟨b1, k * 10 + 8, none⟩) hb1w).trans HA8.out; have t8 := (hSw.cell (p := ⟨b2, k * 10 + 8, none⟩) hb2w).trans HC8.out; have u9 := (hSw.cell (p := ⟨b1, k * 10 + 9, none⟩) hb1w).trans HA9.out; have t9 := (hSw.cell (p := ⟨b2, k * 10 + 9, none⟩) hb2w).trans HC9.out; go_simp); (try (with_reducible rfl)))
        try simp only [Act.put, List.setIfInBounds_toArray, List.set_cons_zero, List.set_cons_succ]
        refine ht_take 6 (v := ?va_7) rfl (by kernel_rfl) (fun _ _ _ h => h) (Or.inl ⟨by rfl, ?ha_7⟩) hHeld ?ra_7
        case ha_7 => ((intro U hSw; have u0 := (hSw.cell (p := ⟨b1, k * 10, none⟩) hb1w).trans HA0.out; have t0 := (hSw.cell (p := ⟨b2, k * 10, none⟩) hb2w).trans HC0.out; have u1 := (hSw.cell (p := ⟨b1, k * 10 + 1, none⟩) hb1w).trans HA1.out; have t1 := (hSw.cell (p := ⟨b2, k * 10 + 1, none⟩) hb2w).trans HC1.out; have u2 := (hSw.cell (p := ⟨b1, k * 10 + 2, none⟩) hb1w).trans HA2.out; have t2 := (hSw.cell (p := ⟨b2, k * 10 + 2, none⟩) hb2w).trans HC2.out; have u3 := (hSw.cell (p := ⟨b1, k * 10 + 3, none⟩) hb1w).trans HA3.out; have t3 := (hSw.cell (p := ⟨b2, k * 10 + 3, none⟩) hb2w).trans HC3.out; have u4 := (hSw.cell (p := ⟨b1, k * 10 + 4, none⟩) hb1w).trans HA4.out; have t4 := (hSw.cell (p := ⟨b2, k * 10 + 4, none⟩) hb2w).trans HC4.out; have u5 := (hSw.cell (p := ⟨b1, k * 10 + 5, none⟩) hb1w).trans HA5.out; have t5 := (hSw.cell (p := ⟨b2, k * 10 + 5, none⟩) hb2w).trans HC5.out; have u6 := (hSw.cell (p := ⟨b1, k * 10 + 6, none⟩) hb1w).trans HA6.out; have t6 := (hSw.cell (p := ⟨b2, k * 10 + 6, none⟩) hb2w).trans HC6.out; have u7 := (hSw.cell (p := ⟨b1, k * 10 + 7, none⟩) hb1w).trans HA7.out; have t7 := (hSw.cell (p := ⟨b2, k * 10 + 7, none⟩) hb2w).trans HC7.out; have u8 := (hSw.cell (p := ⟨b1, k * 10 + 8, none⟩) hb1w).trans HA8.out; have t8 := (hSw.cell (p := ⟨b2, k * 10 + 8, none⟩) hb2w).trans HC8.out; have u9 := (hSw.cell (p := ⟨b1, k * 10 + 9, none⟩) hb1w).trans HA9.out; have t9 := (hSw.cell (p := ⟨b2, k * 10 + 9, none⟩) hb2w).trans HC9.out; go_simp); (try (with_reducible rfl)))
        try simp only [Act.put, List.setIfInBounds_toArray, List.set_cons_zero, List.set_cons_succ]
        refine ht_take 7 (v := ?va_8) rfl (by kernel_rfl) (fun _ _ _ h => h) (Or.inl ⟨by rfl, ?ha_8⟩) hHeld ?ra_8
        case ha_8 => ((intro U hSw; have u0 := (hSw.cell (p := ⟨b1, k * 10, none⟩) hb1w).trans HA0.out; have t0 := (hSw.cell (p := ⟨b2, k * 10, none⟩) hb2w).trans HC0.out; have u1 := (hSw.cell (p := ⟨b1, k * 10 + 1, none⟩) hb1w).trans HA1.out; have t1 := (hSw.cell (p := ⟨b2, k * 10 + 1, none⟩) hb2w).trans HC1.out; have u2 := (hSw.cell (p := ⟨b1, k * 10 + 2, none⟩) hb1w).trans HA2.out; have t2 := (hSw.cell (p := ⟨b2, k * 10 + 2, none⟩) hb2w).trans HC2.out; have u3 := (hSw.cell (p := ⟨b1, k * 10 + 3, none⟩) hb1w).trans HA3.out; have t3 := (hSw.cell (p := ⟨b2, k * 10 + 3, none⟩) hb2w).trans HC3.out; have u4 := (hSw.cell (p := ⟨b1, k * 10 + 4, none⟩) hb1w).trans HA4.out; have t4 := (hSw.cell (p := ⟨b2, k * 10 + 4, none⟩) hb2w).trans HC4.out; have u5 := (hSw.cell (p := ⟨b1, k * 10 + 5, none⟩) hb1w).trans HA5.out; have t5 := (hSw.cell (p := ⟨b2, k * 10 + 5, none⟩) hb2w).trans HC5.out; have u6 := (hSw.cell (p := ⟨b1, k * 10 + 6, none⟩) hb1w).trans HA6.out; have t6 := (hSw.cell (p := ⟨b2, k * 10 + 6, none⟩) hb2w).trans HC6.out; have u7 := (hSw.cell (p := ⟨b1, k * 10 + 7, none⟩) hb1w).trans HA7.out; have t7 := (hSw.cell (p := ⟨b2, k * 10 + 7, none⟩) hb2w).trans HC7.out; have u8 := (hSw.cell (p := ⟨b1, k * 10 + 8, none⟩) hb1w).trans HA8.out; have t8 := (hSw.cell (p := ⟨b2, k * 10 + 8, none⟩) hb2w).trans HC8.out; have u9 := (hSw.cell (p := ⟨b1, k * 10 + 9, none⟩) hb1w).trans HA9.out; have t9 := (hSw.cell (p := ⟨b2, k * 10 + 9, none⟩) hb2w).trans HC9.out; go_simp); (try (with_reducible rfl)))
        try simp only [Act.put, List.setIfInBounds_toArray, List.set_cons_zero, List.set_cons_succ]
        refine wpHT_all [8, 9] (by kernel_rfl) ?_
        refine ht_cons (i := 8) rfl (fun K hK => ?_) (ht_cons (i := 9) rfl (fun K hK => ?_) (allHT.nil))
        · go_simp
          obtain ⟨gx, hgx⟩ : ∃ g, g = wr.heap.size := ⟨_, rfl⟩
          obtain ⟨T1, hT⟩ : ∃ T, T = (wr.drew).alloc (.cells #[.int .i64 0, .string ⟨#[]⟩, .string ⟨#[]⟩, .slice none 0 0, .slice none 0 0, .bool false, .string ⟨#[]⟩, .slice none 0 0, .slice none 0 0, .slice none 0 0] 33) := ⟨_, rfl⟩
          have d1 : Below wr.heap.size wr T1 := by rw [hT]; exact d0.alloc d0.size _
          have kgx1 : Blk T1 gx 33 #[.int .i64 0, .string ⟨#[]⟩, .string ⟨#[]⟩, .slice none 0 0, .slice none 0 0, .bool false, .string ⟨#[]⟩, .slice none 0 0, .slice none 0 0, .slice none 0 0] := by rw [hT, hgx]; exact Blk.new _ _ _
          have ngx : wr.heap.size ≤ gx := by rw [hgx]; exact d0.size
          show K _ ((wr.drew).alloc (.cells #[.int .i64 0, .string ⟨#[]⟩, .string ⟨#[]⟩, .slice none 0 0, .slice none 0 0, .bool false, .string ⟨#[]⟩, .slice none 0 0, .slice none 0 0, .slice none 0 0] 33))
          rw [← hT, ← hgx]
          clear hT hgx
          refine hK.out _ _ (d1) (fun hHeld => ?_)
          clear hK K
          try simp only [Act.put, List.setIfInBounds_toArray, List.set_cons_zero, List.set_cons_succ]
          refine ht_one 9 rfl (by kernel_rfl) (fun K hK => ?_)
          go_simp
          obtain ⟨gy, hgy⟩ : ∃ g, g = T1.heap.size := ⟨_, rfl⟩
          obtain ⟨T2, hT⟩ : ∃ T, T = (T1).alloc (.cells #[.int .i64 0, .string ⟨#[]⟩, .string ⟨#[]⟩, .slice none 0 0, .slice none 0 0, .bool false, .string ⟨#[]⟩, .slice none 0 0, .slice none 0 0, .slice none 0 0] 33) := ⟨_, rfl⟩
          have d2 : Below wr.heap.size wr T2 := by rw [hT]; exact d1.alloc d1.size _
          have kgy2 : Blk T2 gy 33 #[.int .i64 0, .string ⟨#[]⟩, .string ⟨#[]⟩, .slice none 0 0, .slice none 0 0, .bool false, .string ⟨#[]⟩, .slice none 0 0, .slice none 0 0, .slice none 0 0] := by rw [hT, hgy]; exact Blk.new _ _ _
          have kgx2 : Blk T2 gx 33 #[.int .i64 0, .string ⟨#[]⟩, .string ⟨#[]⟩, .slice none 0 0, .slice none 0 0, .bool false, .string ⟨#[]⟩, .slice none 0 0, .slice none 0 0, .slice none 0 0] := by rw [hT]; exact kgx1.alloc _
          have hxy : gx < gy := by rw [hgy]; exact kgx1.lt
          have ngy : wr.heap.size ≤ gy := by rw [hgy]; exact d1.size
          show K _ ((T1).alloc (.cells #[.int .i64 0, .string ⟨#[]⟩, .string ⟨#[]⟩, .slice none 0 0, .slice none 0 0, .bool false, .string ⟨#[]⟩, .slice none 0 0, .slice none 0 0, .slice none 0 0] 33))
          rw [← hT, ← hgy]
          clear hT hgy
          refine hK.out _ _ (d2) (fun hHeld => ?_)
          clear hK K
          try simp only [Act.put, List.setIfInBounds_toArray, List.set_cons_zero, List.set_cons_succ]
          refine ht_one 10 rfl (by kernel_rfl) (fun K hK => ?_)
          have hne1 : gx ≠ gy := by omega
          have hne2 : gy ≠ gx := by omega
          have ra0 : T2.cell? ⟨gx, 0, none⟩ = some (.int .i64 0) := kgx2.cell 0
          have ra1 : T2.cell? ⟨gx, 1, none⟩ = some (.string ⟨#[]⟩) := kgx2.cell 1
          have ra2 : T2.cell? ⟨gx, 2, none⟩ = some (.string ⟨#[]⟩) := kgx2.cell 2
          have ra3 : T2.cell? ⟨gx, 3, none⟩ = some (.slice none 0 0) := kgx2.cell 3
          have ra4 : T2.cell? ⟨gx, 4, none⟩ = some (.slice none 0 0) := kgx2.cell 4
          have ra5 : T2.cell? ⟨gx, 5, none⟩ = some (.bool false) := kgx2.cell 5
          have ra6 : T2.cell? ⟨gx, 6, none⟩ = some (.string ⟨#[]⟩) := kgx2.cell 6
          have ra7 : T2.cell? ⟨gx, 7, none⟩ = some (.slice none 0 0) := kgx2.cell 7
          have ra8 : T2.cell? ⟨gx, 8, none⟩ = some (.slice none 0 0) := kgx2.cell 8
          have ra9 : T2.cell? ⟨gx, 9, none⟩ = some (.slice none 0 0) := kgx2.cell 9
          have qa0 := kgx2.frozen 0
          have qa1 := kgx2.frozen 1
          have qa2 := kgx2.frozen 2
          have qa3 := kgx2.frozen 3
          have qa4 := kgx2.frozen 4
          have qa5 := kgx2.frozen 5
          have qa6 := kgx2.frozen 6
          have qa7 := kgx2.frozen 7
          have qa8 := kgx2.frozen 8
          have qa9 := kgx2.frozen 9
          have hlx := kgx2.lt
          go_simp
          obtain ⟨T3, hT⟩ : ∃ T, T = putAll T2 gx 0 [.int .i64 x.kind, .string x.id, .string x.first, .slice P1 x.parts.length p1, .slice F1 x.flows.length f1, .bool x.loop, .string x.called, .slice M1 x.maps.length m1, .slice I1 x.items.length i1, .slice S1 x.seqs.length s1] := ⟨_, rfl⟩
          have d3 : Below wr.heap.size wr T3 := by rw [hT]; exact putAll_below ngx _ 0 _ d2
          have kgx3 : Blk T3 gx 33 #[.int .i64 x.kind, .string x.id, .string x.first, .slice P1 x.parts.length p1, .slice F1 x.flows.length f1, .bool x.loop, .string x.called, .slice M1 x.maps.length m1, .slice I1 x.items.length i1, .slice S1 x.seqs.length s1] := by rw [hT]; exact putAll_blk [.int .i64 x.kind, .string x.id, .string x.first, .slice P1 x.parts.length p1, .slice F1 x.flows.length f1, .bool x.loop, .string x.called, .slice M1 x.maps.length m1, .slice I1 x.items.length i1, .slice S1 x.seqs.length s1] 0 T2 _ kgx2 rfl
          have kgy3 : Blk T3 gy 33 #[.int .i64 0, .string ⟨#[]⟩, .string ⟨#[]⟩, .slice none 0 0, .slice none 0 0, .bool false, .string ⟨#[]⟩, .slice none 0 0, .slice none 0 0, .slice none 0 0] := by rw [hT]; exact (putAll_heap [.int .i64 x.kind, .string x.id, .string x.first, .slice P1 x.parts.length p1, .slice F1 x.flows.length f1, .bool x.loop, .string x.called, .slice M1 x.maps.length m1, .slice I1 x.items.length i1, .slice S1 x.seqs.length s1] 0 T2 gy hne2).trans kgy2
          show K _ (putAll T2 gx 0 [.int .i64 x.kind, .string x.id, .string x.first, .slice P1 x.parts.length p1, .slice F1 x.flows.length f1, .bool x.loop, .string x.called, .slice M1 x.maps.length m1, .slice I1 x.items.length i1, .slice S1 x.seqs.length s1])
          rw [← hT]
          clear hT ra0 qa0 ra1 qa1 ra2 qa2 ra3 qa3 ra4 qa4 ra5 qa5 ra6 qa6 ra7 qa7 ra8 qa8 ra9 qa9
          refine hK.out _ _ (d3) (fun hHeld => ?_)
          clear hK K
          try simp only [Act.put, List.setIfInBounds_toArray, List.set_cons_zero, List.set_cons_succ]
          refine ht_done (by kernel_rfl) rfl ?_
          have rb0 : T3.cell? ⟨gy, 0, none⟩ = some (.int .i64 0) := kgy3.cell 0
          have rb1 : T3.cell? ⟨gy, 1, none⟩ = some (.string ⟨#[]⟩) := kgy3.cell 1
          have rb2 : T3.cell? ⟨gy, 2, none⟩ = some (.string ⟨#[]⟩) := kgy3.cell 2
          have rb3 : T3.cell? ⟨gy, 3, none⟩ = some (.slice none 0 0) := kgy3.cell 3
          have rb4 : T3.cell? ⟨gy, 4, none⟩ = some (.slice none 0 0) := kgy3.cell 4
          have rb5 : T3.cell? ⟨gy, 5, none⟩ = some (.bool false) := kgy3.cell 5
          have rb6 : T3.cell? ⟨gy, 6, none⟩ = some (.string ⟨#[]⟩) := kgy3.cell 6
          have rb7 : T3.cell? ⟨gy, 7, none⟩ = some (.slice none 0 0) := kgy3.cell 7
          have rb8 : T3.cell? ⟨gy, 8, none⟩ = some (.slice none 0 0) := kgy3.cell 8
          have rb9 : T3.cell? ⟨gy, 9, none⟩ = some (.slice none 0 0) := kgy3.cell 9
          have qb0 := kgy3.frozen 0
          have qb1 := kgy3.frozen 1
          have qb2 := kgy3.frozen 2
          have qb3 := kgy3.frozen 3
          have qb4 := kgy3.frozen 4
          have qb5 := kgy3.frozen 5
          have qb6 := kgy3.frozen 6
          have qb7 := kgy3.frozen 7
          have qb8 := kgy3.frozen 8
          have qb9 := kgy3.frozen 9
          have hly := kgy3.lt
          have hX2 : Blk (putAll T3 gy 0 [.int .i64 x.kind, .string x.id, .string x.first, .slice P2 x.parts.length p2, .slice F2 x.flows.length f2, .bool x.loop, .string x.called, .slice M2 x.maps.length m2, .slice I2 x.items.length i2, .slice S2 x.seqs.length s2]) gx 33 #[.int .i64 x.kind, .string x.id, .string x.first, .slice P1 x.parts.length p1, .slice F1 x.flows.length f1, .bool x.loop, .string x.called, .slice M1 x.maps.length m1, .slice I1 x.items.length i1, .slice S1 x.seqs.length s1] := (putAll_heap _ 0 _ _ hne1).trans kgx3
          have hY2 := putAll_blk [.int .i64 x.kind, .string x.id, .string x.first, .slice P2 x.parts.length p2, .slice F2 x.flows.length f2, .bool x.loop, .string x.called, .slice M2 x.maps.length m2, .slice I2 x.items.length i2, .slice S2 x.seqs.length s2] 0 T3 _ kgy3 rfl
          have hBB : Below w.heap.size w (putAll T3 gy 0 [.int .i64 x.kind, .string x.id, .string x.first, .slice P2 x.parts.length p2, .slice F2 x.flows.length f2, .bool x.loop, .string x.called, .slice M2 x.maps.length m2, .slice I2 x.items.length i2, .slice S2 x.seqs.length s2]) := putAll_below (by omega) _ 0 _ (HB.out.trans (d3.mono hsz))
          have HX2 := Lib.hid hX2
          have HY2 := Lib.hid hY2
          have HBB := Lib.hid hBB
          clear kgx3 kgy3 hX2 hY2 hBB d3
          go_wp2_with fail
          go_meet
          case rel => exact ⟨gx, gy, rfl, rfl, HX2.out, HY2.out, HBB.out⟩
        · go_simp
          obtain ⟨gy, hgy⟩ : ∃ g, g = wr.heap.size := ⟨_, rfl⟩
          obtain ⟨T1, hT⟩ : ∃ T, T = (wr.drew).alloc (.cells #[.int .i64 0, .string ⟨#[]⟩, .string ⟨#[]⟩, .slice none 0 0, .slice none 0 0, .bool false, .string ⟨#[]⟩, .slice none 0 0, .slice none 0 0, .slice none 0 0] 33) := ⟨_, rfl⟩
          have d1 : Below wr.heap.size wr T1 := by rw [hT]; exact d0.alloc d0.size _
          have kgy1 : Blk T1 gy 33 #[.int .i64 0, .string ⟨#[]⟩, .string ⟨#[]⟩, .slice none 0 0, .slice none 0 0, .bool false, .string ⟨#[]⟩, .slice none 0 0, .slice none 0 0, .slice none 0 0] := by rw [hT, hgy]; exact Blk.new _ _ _
          have ngy : wr.heap.size ≤ gy := by rw [hgy]; exact d0.size
          show K _ ((wr.drew).alloc (.cells #[.int .i64 0, .string ⟨#[]⟩, .string ⟨#[]⟩, .slice none 0 0, .slice none 0 0, .bool false, .string ⟨#[]⟩, .slice none 0 0, .slice none 0 0, .slice none 0 0] 33))
          rw [← hT, ← hgy]
          clear hT hgy
          refine hK.out _ _ (d1) (fun hHeld => ?_)
          clear hK K
          try simp only [Act.put, List.setIfInBounds_toArray, List.set_cons_zero, List.set_cons_succ]
          refine ht_one 8 rfl (by kernel_rfl) (fun K hK => ?_)
          go_simp
          obtain ⟨gx, hgx⟩ : ∃ g, g = T1.heap.size := ⟨_, rfl⟩
          obtain ⟨T2, hT⟩ : ∃ T, T = (T1).alloc (.cells #[.int .i64 0, .string ⟨#[]⟩, .string ⟨#[]⟩, .slice none 0 0, .slice none 0 0, .bool false, .string ⟨#[]⟩, .slice none 0 0, .slice none 0 0, .slice none 0 0] 33) := ⟨_, rfl⟩
          have d2 : Below wr.heap.size wr T2 := by rw [hT]; exact d1.alloc d1.size _
          have kgx2 : Blk T2 gx 33 #[.int .i64 0, .string ⟨#[]⟩, .string ⟨#[]⟩, .slice none 0 0, .slice none 0 0, .bool false, .string ⟨#[]⟩, .slice none 0 0, .slice none 0 0, .slice none 0 0] := by rw [hT, hgx]; exact Blk.new _ _ _
          have kgy2 : Blk T2 gy 33 #[.int .i64 0, .string ⟨#[]⟩, .string ⟨#[]⟩, .slice none 0 0, .slice none 0 0, .bool false, .string ⟨#[]⟩, .slice none 0 0, .slice none 0 0, .slice none 0 0] := by rw [hT]; exact kgy1.alloc _
          have hxy : gy < gx := by rw [hgx]; exact kgy1.lt
          have ngx : wr.heap.size ≤ gx := by rw [hgx]; exact d1.size
          show K _ ((T1).alloc (.cells #[.int .i64 0, .string ⟨#[]⟩, .string ⟨#[]⟩, .slice none 0 0, .slice none 0 0, .bool false, .string ⟨#[]⟩, .slice none 0 0, .slice none 0 0, .slice none 0 0] 33))
          rw [← hT, ← hgx]
          clear hT hgx
          refine hK.out _ _ (d2) (fun hHeld => ?_)
          clear hK K
          try simp only [Act.put, List.setIfInBounds_toArray, List.set_cons_zero, List.set_cons_succ]
          refine ht_one 10 rfl (by kernel_rfl) (fun K hK => ?_)
          have hne1 : gx ≠ gy := by omega
          have hne2 : gy ≠ gx := by omega
          have ra0 : T2.cell? ⟨gx, 0, none⟩ = some (.int .i64 0) := kgx2.cell 0
          have ra1 : T2.cell? ⟨gx, 1, none⟩ = some (.string ⟨#[]⟩) := kgx2.cell 1
          have ra2 : T2.cell? ⟨gx, 2, none⟩ = some (.string ⟨#[]⟩) := kgx2.cell 2
          have ra3 : T2.cell? ⟨gx, 3, none⟩ = some (.slice none 0 0) := kgx2.cell 3
          have ra4 : T2.cell? ⟨gx, 4, none⟩ = some (.slice none 0 0) := kgx2.cell 4
          have ra5 : T2.cell? ⟨gx, 5, none⟩ = some (.bool false) := kgx2.cell 5
          have ra6 : T2.cell? ⟨gx, 6, none⟩ = some (.string ⟨#[]⟩) := kgx2.cell 6
          have ra7 : T2.cell? ⟨gx, 7, none⟩ = some (.slice none 0 0) := kgx2.cell 7
          have ra8 : T2.cell? ⟨gx, 8, none⟩ = some (.slice none 0 0) := kgx2.cell 8
          have ra9 : T2.cell? ⟨gx, 9, none⟩ = some (.slice none 0 0) := kgx2.cell 9
          have qa0 := kgx2.frozen 0
          have qa1 := kgx2.frozen 1
          have qa2 := kgx2.frozen 2
          have qa3 := kgx2.frozen 3
          have qa4 := kgx2.frozen 4
          have qa5 := kgx2.frozen 5
          have qa6 := kgx2.frozen 6
          have qa7 := kgx2.frozen 7
          have qa8 := kgx2.frozen 8
          have qa9 := kgx2.frozen 9
          have hlx := kgx2.lt
          go_simp
          obtain ⟨T3, hT⟩ : ∃ T, T = putAll T2 gx 0 [.int .i64 x.kind, .string x.id, .string x.first, .slice P1 x.parts.length p1, .slice F1 x.flows.length f1, .bool x.loop, .string x.called, .slice M1 x.maps.length m1, .slice I1 x.items.length i1, .slice S1 x.seqs.length s1] := ⟨_, rfl⟩
          have d3 : Below wr.heap.size wr T3 := by rw [hT]; exact putAll_below ngx _ 0 _ d2
          have kgx3 : Blk T3 gx 33 #[.int .i64 x.kind, .string x.id, .string x.first, .slice P1 x.parts.length p1, .slice F1 x.flows.length f1, .bool x.loop, .string x.called, .slice M1 x.maps.length m1, .slice I1 x.items.length i1, .slice S1 x.seqs.length s1] := by rw [hT]; exact putAll_blk [.int .i64 x.kind, .string x.id, .string x.first, .slice P1 x.parts.length p1, .slice F1 x.flows.length f1, .bool x.loop, .string x.called, .slice M1 x.maps.length m1, .slice I1 x.items.length i1, .slice S1 x.seqs.length s1] 0 T2 _ kgx2 rfl
          have kgy3 : Blk T3 gy 33 #[.int .i64 0, .string ⟨#[]⟩, .string ⟨#[]⟩, .slice none 0 0, .slice none 0 0, .bool false, .string ⟨#[]⟩, .slice none 0 0, .slice none 0 0, .slice none 0 0] := by rw [hT]; exact (putAll_heap [.int .i64 x.kind, .string x.id, .string x.first, .slice P1 x.parts.length p1, .slice F1 x.flows.length f1, .bool x.loop, .string x.called, .slice M1 x.maps.length m1, .slice I1 x.items.length i1, .slice S1 x.seqs.length s1] 0 T2 gy hne2).trans kgy2
          show K _ (putAll T2 gx 0 [.int .i64 x.kind, .string x.id, .string x.first, .slice P1 x.parts.length p1, .slice F1 x.flows.length f1, .bool x.loop, .string x.called, .slice M1 x.maps.length m1, .slice I1 x.items.length i1, .slice S1 x.seqs.length s1])
          rw [← hT]
          clear hT ra0 qa0 ra1 qa1 ra2 qa2 ra3 qa3 ra4 qa4 ra5 qa5 ra6 qa6 ra7 qa7 ra8 qa8 ra9 qa9
          refine hK.out _ _ (d3) (fun hHeld => ?_)
          clear hK K
          try simp only [Act.put, List.setIfInBounds_toArray, List.set_cons_zero, List.set_cons_succ]
          refine ht_done (by kernel_rfl) rfl ?_
          have rb0 : T3.cell? ⟨gy, 0, none⟩ = some (.int .i64 0) := kgy3.cell 0
          have rb1 : T3.cell? ⟨gy, 1, none⟩ = some (.string ⟨#[]⟩) := kgy3.cell 1
          have rb2 : T3.cell? ⟨gy, 2, none⟩ = some (.string ⟨#[]⟩) := kgy3.cell 2
          have rb3 : T3.cell? ⟨gy, 3, none⟩ = some (.slice none 0 0) := kgy3.cell 3
          have rb4 : T3.cell? ⟨gy, 4, none⟩ = some (.slice none 0 0) := kgy3.cell 4
          have rb5 : T3.cell? ⟨gy, 5, none⟩ = some (.bool false) := kgy3.cell 5
          have rb6 : T3.cell? ⟨gy, 6, none⟩ = some (.string ⟨#[]⟩) := kgy3.cell 6
          have rb7 : T3.cell? ⟨gy, 7, none⟩ = some (.slice none 0 0) := kgy3.cell 7
          have rb8 : T3.cell? ⟨gy, 8, none⟩ = some (.slice none 0 0) := kgy3.cell 8
          have rb9 : T3.cell? ⟨gy, 9, none⟩ = some (.slice none 0 0) := kgy3.cell 9
          have qb0 := kgy3.frozen 0
          have qb1 := kgy3.frozen 1
          have qb2 := kgy3.frozen 2
          have qb3 := kgy3.frozen 3
          have qb4 := kgy3.frozen 4
          have qb5 := kgy3.frozen 5
          have qb6 := kgy3.frozen 6
          have qb7 := kgy3.frozen 7
          have qb8 := kgy3.frozen 8
          have qb9 := kgy3.frozen 9
          have hly := kgy3.lt
          have hX2 : Blk (putAll T3 gy 0 [.int .i64 x.kind, .string x.id, .string x.first, .slice P2 x.parts.length p2, .slice F2 x.flows.length f2, .bool x.loop, .string x.called, .slice M2 x.maps.length m2, .slice I2 x.items.length i2, .slice S2 x.seqs.length s2]) gx 33 #[.int .i64 x.kind, .string x.id, .string x.first, .slice P1 x.parts.length p1, .slice F1 x.flows.length f1, .bool x.loop, .string x.called, .slice M1 x.maps.length m1, .slice I1 x.items.length i1, .slice S1 x.seqs.length s1] := (putAll_heap _ 0 _ _ hne1).trans kgx3
          have hY2 := putAll_blk [.int .i64 x.kind, .string x.id, .string x.first, .slice P2 x.parts.length p2, .slice F2 x.flows.length f2, .bool x.loop, .string x.called, .slice M2 x.maps.length m2, .slice I2 x.items.length i2, .slice S2 x.seqs.length s2] 0 T3 _ kgy3 rfl
          have hBB : Below w.heap.size w (putAll T3 gy 0 [.int .i64 x.kind, .string x.id, .string x.first, .slice P2 x.parts.length p2, .slice F2 x.flows.length f2, .bool x.loop, .string x.called, .slice M2 x.maps.length m2, .slice I2 x.items.length i2, .slice S2 x.seqs.length s2]) := putAll_below (by omega) _ 0 _ (HB.out.trans (d3.mono hsz))
          have HX2 := Lib.hid hX2
          have HY2 := Lib.hid hY2
          have HBB := Lib.hid hBB
          clear kgx3 kgy3 hX2 hY2 hBB d3
          go_wp2_with fail
          go_meet
          case rel => exact ⟨gx, gy, rfl, rfl, HX2.out, HY2.out, HBB.out⟩
      case rest =>
        obtain ⟨gx, gy, rfl, rfl, hKX, hKY, hB0⟩ := hcut
        obtain ⟨W0, rfl⟩ : ∃ V, V = wc := ⟨_, rfl⟩
        have HKX0 := Lib.hid hKX
        have HKY0 := Lib.hid hKY
        have HB0 := Lib.hid hB0
        clear hKX hKY hB0 HA0 HC0 HA1 HC1 HA2 HC2 HA3 HC3 HA4 HC4 HA5 HC5 HA6 HC6 HA7 HC7 HA8 HC8 HA9 HC9 d0
        have ya0 : W0.cell? ⟨gx, 0, none⟩ = some (.int .i64 x.kind) := HKX0.out.cell 0
        have ya1 : W0.cell? ⟨gx, 1, none⟩ = some (.string x.id) := HKX0.out.cell 1
        have ya2 : W0.cell? ⟨gx, 2, none⟩ = some (.string x.first) := HKX0.out.cell 2
        have ya3 : W0.cell? ⟨gx, 3, none⟩ = some (.slice P1 x.parts.length p1) := HKX0.out.cell 3
        have ya4 : W0.cell? ⟨gx, 4, none⟩ = some (.slice F1 x.flows.length f1) := HKX0.out.cell 4
        have ya5 : W0.cell? ⟨gx, 5, none⟩ = some (.bool x.loop) := HKX0.out.cell 5
        have ya6 : W0.cell? ⟨gx, 6, none⟩ = some (.string x.called) := HKX0.out.cell 6
        have ya7 : W0.cell? ⟨gx, 7, none⟩ = some (.slice M1 x.maps.length m1) := HKX0.out.cell 7
        have ya8 : W0.cell? ⟨gx, 8, none⟩ = some (.slice I1 x.items.length i1) := HKX0.out.cell 8
        have ya9 : W0.cell? ⟨gx, 9, none⟩ = some (.slice S1 x.seqs.length s1) := HKX0.out.cell 9
        have yb0 : W0.cell? ⟨gy, 0, none⟩ = some (.int .i64 x.kind) := HKY0.out.cell 0
        have yb1 : W0.cell? ⟨gy, 1, none⟩ = some (.string x.id) := HKY0.out.cell 1
        have yb2 : W0.cell? ⟨gy, 2, none⟩ = some (.string x.first) := HKY0.out.cell 2
        have yb3 : W0.cell? ⟨gy, 3, none⟩ = some (.slice P2 x.parts.length p2) := HKY0.out.cell 3
        have yb4 : W0.cell? ⟨gy, 4, none⟩ = some (.slice F2 x.flows.length f2) := HKY0.out.cell 4
        have yb5 : W0.cell? ⟨gy, 5, none⟩ = some (.bool x.loop) := HKY0.out.cell 5
        have yb6 : W0.cell? ⟨gy, 6, none⟩ = some (.string x.called) := HKY0.out.cell 6
        have yb7 : W0.cell? ⟨gy, 7, none⟩ = some (.slice M2 x.maps.length m2) := HKY0.out.cell 7
        have yb8 : W0.cell? ⟨gy, 8, none⟩ = some (.slice I2 x.items.length i2) := HKY0.out.cell 8
        have yb9 : W0.cell? ⟨gy, 9, none⟩ = some (.slice S2 x.seqs.length s2) := HKY0.out.cell 9
        go_wp2_with fail
        refine (same_texts (Rd.below HB0.out _ _ HP1.out) (Rd.below HB0.out _ _ HP2.out)).mono ?_
        rintro e W1 ⟨rfl, hb1⟩
        have HKX1 := Lib.hid (HKX0.out.below hb1 HKX0.out.lt)
        have HKY1 := Lib.hid (HKY0.out.below hb1 HKY0.out.lt)
        have HB1 := Lib.hid (HB0.out.trans (hb1.mono HB0.out.size))
        clear ya0 yb0 ya1 yb1 ya2 yb2 ya3 yb3 ya4 yb4 ya5 yb5 ya6 yb6 ya7 yb7 ya8 yb8 ya9 yb9
        clear hb1
        have ya0 : W1.cell? ⟨gx, 0, none⟩ = some (.int .i64 x.kind) := HKX1.out.cell 0
        have ya1 : W1.cell? ⟨gx, 1, none⟩ = some (.string x.id) := HKX1.out.cell 1
        have ya2 : W1.cell? ⟨gx, 2, none⟩ = some (.string x.first) := HKX1.out.cell 2
        have ya3 : W1.cell? ⟨gx, 3, none⟩ = some (.slice P1 x.parts.length p1) := HKX1.out.cell 3
        have ya4 : W1.cell? ⟨gx, 4, none⟩ = some (.slice F1 x.flows.length f1) := HKX1.out.cell 4
        have ya5 : W1.cell? ⟨gx, 5, none⟩ = some (.bool x.loop) := HKX1.out.cell 5
        have ya6 : W1.cell? ⟨gx, 6, none⟩ = some (.string x.called) := HKX1.out.cell 6
        have ya7 : W1.cell? ⟨gx, 7, none⟩ = some (.slice M1 x.maps.length m1) := HKX1.out.cell 7
        have ya8 : W1.cell? ⟨gx, 8, none⟩ = some (.slice I1 x.items.length i1) := HKX1.out.cell 8
        have ya9 : W1.cell? ⟨gx, 9, none⟩ = some (.slice S1 x.seqs.length s1) := HKX1.out.cell 9
        have yb0 : W1.cell? ⟨gy, 0, none⟩ = some (.int .i64 x.kind) := HKY1.out.cell 0
        have yb1 : W1.cell? ⟨gy, 1, none⟩ = some (.string x.id) := HKY1.out.cell 1
        have yb2 : W1.cell? ⟨gy, 2, none⟩ = some (.string x.first) := HKY1.out.cell 2
        have yb3 : W1.cell? ⟨gy, 3, none⟩ = some (.slice P2 x.parts.length p2) := HKY1.out.cell 3
        have yb4 : W1.cell? ⟨gy, 4, none⟩ = some (.slice F2 x.flows.length f2) := HKY1.out.cell 4
        have yb5 : W1.cell? ⟨gy, 5, none⟩ = some (.bool x.loop) := HKY1.out.cell 5
        have yb6 : W1.cell? ⟨gy, 6, none⟩ = some (.string x.called) := HKY1.out.cell 6
        have yb7 : W1.cell? ⟨gy, 7, none⟩ = some (.slice M2 x.maps.length m2) := HKY1.out.cell 7
        have yb8 : W1.cell? ⟨gy, 8, none⟩ = some (.slice I2 x.items.length i2) := HKY1.out.cell 8
        have yb9 : W1.cell? ⟨gy, 9, none⟩ = some (.slice S2 x.seqs.length s2) := HKY1.out.cell 9
        go_wp2_with fail
        refine (same_texts (Rd.below HB1.out _ _ HF1.out) (Rd.below HB1.out _ _ HF2.out)).mono ?_
        rintro e W2 ⟨rfl, hb2⟩
        have HKX2 := Lib.hid (HKX1.out.below hb2 HKX1.out.lt)
        have HKY2 := Lib.hid (HKY1.out.below hb2 HKY1.out.lt)
        have HB2 := Lib.hid (HB1.out.trans (hb2.mono HB1.out.size))
        clear ya0 yb0 ya1 yb1 ya2 yb2 ya3 yb3 ya4 yb4 ya5 yb5 ya6 yb6 ya7 yb7 ya8 yb8 ya9 yb9
        clear hb2
        have ya0 : W2.cell? ⟨gx, 0, none⟩ = some (.int .i64 x.kind) := HKX2.out.cell 0
        have ya1 : W2.cell? ⟨gx, 1, none⟩ = some (.string x.id) := HKX2.out.cell 1
        have ya2 : W2.cell? ⟨gx, 2, none⟩ = some (.string x.first) := HKX2.out.cell 2
        have ya3 : W2.cell? ⟨gx, 3, none⟩ = some (.slice P1 x.parts.length p1) := HKX2.out.cell 3
        have ya4 : W2.cell? ⟨gx, 4, none⟩ = some (.slice F1 x.flows.length f1) := HKX2.out.cell 4
        have ya5 : W2.cell? ⟨gx, 5, none⟩ = some (.bool x.loop) := HKX2.out.cell 5
        have ya6 : W2.cell? ⟨gx, 6, none⟩ = some (.string x.called) := HKX2.out.cell 6
        have ya7 : W2.cell? ⟨gx, 7, none⟩ = some (.slice M1 x.maps.length m1) := HKX2.out.cell 7
        have ya8 : W2.cell? ⟨gx, 8, none⟩ = some (.slice I1 x.items.length i1) := HKX2.out.cell 8
        have ya9 : W2.cell? ⟨gx, 9, none⟩ = some (.slice S1 x.seqs.length s1) := HKX2.out.cell 9
        have yb0 : W2.cell? ⟨gy, 0, none⟩ = some (.int .i64 x.kind) := HKY2.out.cell 0
        have yb1 : W2.cell? ⟨gy, 1, none⟩ = some (.string x.id) := HKY2.out.cell 1
        have yb2 : W2.cell? ⟨gy, 2, none⟩ = some (.string x.first) := HKY2.out.cell 2
        have yb3 : W2.cell? ⟨gy, 3, none⟩ = some (.slice P2 x.parts.length p2) := HKY2.out.cell 3
        have yb4 : W2.cell? ⟨gy, 4, none⟩ = some (.slice F2 x.flows.length f2) := HKY2.out.cell 4
        have yb5 : W2.cell? ⟨gy, 5, none⟩ = some (.bool x.loop) := HKY2.out.cell 5
        have yb6 : W2.cell? ⟨gy, 6, none⟩ = some (.string x.called) := HKY2.out.cell 6
        have yb7 : W2.cell? ⟨gy, 7, none⟩ = some (.slice M2 x.maps.length m2) := HKY2.out.cell 7
        have yb8 : W2.cell? ⟨gy, 8, none⟩ = some (.slice I2 x.items.length i2) := HKY2.out.cell 8
        have yb9 : W2.cell? ⟨gy, 9, none⟩ = some (.slice S2 x.seqs.length s2) := HKY2.out.cell 9
        go_wp2_with fail
        refine (HIH2.out x.items hdx _ _ _ (Rd.below HB2.out _ _ HI1.out) (Rd.below HB2.out _ _ HI2.out)).mono ?_
        rintro e W3 ⟨rfl, hb3⟩
        have HKX3 := Lib.hid (HKX2.out.below hb3 HKX2.out.lt)
        have HKY3 := Lib.hid (HKY2.out.below hb3 HKY2.out.lt)
        have HB3 := Lib.hid (HB2.out.trans (hb3.mono HB2.out.size))
        clear ya0 yb0 ya1 yb1 ya2 yb2 ya3 yb3 ya4 yb4 ya5 yb5 ya6 yb6 ya7 yb7 ya8 yb8 ya9 yb9
        clear hb3
        have ya0 : W3.cell? ⟨gx, 0, none⟩ = some (.int .i64 x.kind) := HKX3.out.cell 0
        have ya1 : W3.cell? ⟨gx, 1, none⟩ = some (.string x.id) := HKX3.out.cell 1
        have ya2 : W3.cell? ⟨gx, 2, none⟩ = some (.string x.first) := HKX3.out.cell 2
        have ya3 : W3.cell? ⟨gx, 3, none⟩ = some (.slice P1 x.parts.length p1) := HKX3.out.cell 3
        have ya4 : W3.cell? ⟨gx, 4, none⟩ = some (.slice F1 x.flows.length f1) := HKX3.out.cell 4
        have ya5 : W3.cell? ⟨gx, 5, none⟩ = some (.bool x.loop) := HKX3.out.cell 5
        have ya6 : W3.cell? ⟨gx, 6, none⟩ = some (.string x.called) := HKX3.out.cell 6
        have ya7 : W3.cell? ⟨gx, 7, none⟩ = some (.slice M1 x.maps.length m1) := HKX3.out.cell 7
        have ya8 : W3.cell? ⟨gx, 8, none⟩ = some (.slice I1 x.items.length i1) := HKX3.out.cell 8
        have ya9 : W3.cell? ⟨gx, 9, none⟩ = some (.slice S1 x.seqs.length s1) := HKX3.out.cell 9
        have yb0 : W3.cell? ⟨gy, 0, none⟩ = some (.int .i64 x.kind) := HKY3.out.cell 0
        have yb1 : W3.cell? ⟨gy, 1, none⟩ = some (.string x.id) := HKY3.out.cell 1
        have yb2 : W3.cell? ⟨gy, 2, none⟩ = some (.string x.first) := HKY3.out.cell 2
        have yb3 : W3.cell? ⟨gy, 3, none⟩ = some (.slice P2 x.parts.length p2) := HKY3.out.cell 3
        have yb4 : W3.cell? ⟨gy, 4, none⟩ = some (.slice F2 x.flows.length f2) := HKY3.out.cell 4
        have yb5 : W3.cell? ⟨gy, 5, none⟩ = some (.bool x.loop) := HKY3.out.cell 5
        have yb6 : W3.cell? ⟨gy, 6, none⟩ = some (.string x.called) := HKY3.out.cell 6
        have yb7 : W3.cell? ⟨gy, 7, none⟩ = some (.slice M2 x.maps.length m2) := HKY3.out.cell 7
        have yb8 : W3.cell? ⟨gy, 8, none⟩ = some (.slice I2 x.items.length i2) := HKY3.out.cell 8
        have yb9 : W3.cell? ⟨gy, 9, none⟩ = some (.slice S2 x.seqs.length s2) := HKY3.out.cell 9
        go_wp2_with fail
        refine (same_seqs (Rd.below HB3.out _ _ HS1.out) (Rd.below HB3.out _ _ HS2.out)).mono ?_
        rintro e W4 ⟨rfl, hb4⟩
        have HKX4 := Lib.hid (HKX3.out.below hb4 HKX3.out.lt)
        have HKY4 := Lib.hid (HKY3.out.below hb4 HKY3.out.lt)
        have HB4 := Lib.hid (HB3.out.trans (hb4.mono HB3.out.size))
        clear ya0 yb0 ya1 yb1 ya2 yb2 ya3 yb3 ya4 yb4 ya5 yb5 ya6 yb6 ya7 yb7 ya8 yb8 ya9 yb9
        clear hb4
        have ya0 : W4.cell? ⟨gx, 0, none⟩ = some (.int .i64 x.kind) := HKX4.out.cell 0
        have ya1 : W4.cell? ⟨gx, 1, none⟩ = some (.string x.id) := HKX4.out.cell 1
        have ya2 : W4.cell? ⟨gx, 2, none⟩ = some (.string x.first) := HKX4.out.cell 2
        have ya3 : W4.cell? ⟨gx, 3, none⟩ = some (.slice P1 x.parts.length p1) := HKX4.out.cell 3
        have ya4 : W4.cell? ⟨gx, 4, none⟩ = some (.slice F1 x.flows.length f1) := HKX4.out.cell 4
        have ya5 : W4.cell? ⟨gx, 5, none⟩ = some (.bool x.loop) := HKX4.out.cell 5
        have ya6 : W4.cell? ⟨gx, 6, none⟩ = some (.string x.called) := HKX4.out.cell 6
        have ya7 : W4.cell? ⟨gx, 7, none⟩ = some (.slice M1 x.maps.length m1) := HKX4.out.cell 7
        have ya8 : W4.cell? ⟨gx, 8, none⟩ = some (.slice I1 x.items.length i1) := HKX4.out.cell 8
        have ya9 : W4.cell? ⟨gx, 9, none⟩ = some (.slice S1 x.seqs.length s1) := HKX4.out.cell 9
        have yb0 : W4.cell? ⟨gy, 0, none⟩ = some (.int .i64 x.kind) := HKY4.out.cell 0
        have yb1 : W4.cell? ⟨gy, 1, none⟩ = some (.string x.id) := HKY4.out.cell 1
        have yb2 : W4.cell? ⟨gy, 2, none⟩ = some (.string x.first) := HKY4.out.cell 2
        have yb3 : W4.cell? ⟨gy, 3, none⟩ = some (.slice P2 x.parts.length p2) := HKY4.out.cell 3
        have yb4 : W4.cell? ⟨gy, 4, none⟩ = some (.slice F2 x.flows.length f2) := HKY4.out.cell 4
        have yb5 : W4.cell? ⟨gy, 5, none⟩ = some (.bool x.loop) := HKY4.out.cell 5
        have yb6 : W4.cell? ⟨gy, 6, none⟩ = some (.string x.called) := HKY4.out.cell 6
        have yb7 : W4.cell? ⟨gy, 7, none⟩ = some (.slice M2 x.maps.length m2) := HKY4.out.cell 7
        have yb8 : W4.cell? ⟨gy, 8, none⟩ = some (.slice I2 x.items.length i2) := HKY4.out.cell 8
        have yb9 : W4.cell? ⟨gy, 9, none⟩ = some (.slice S2 x.seqs.length s2) := HKY4.out.cell 9
        go_wp2_with fail
        go_loopw [8] (fun v wy => ∃ j : Nat, j ≤ x.maps.length ∧ v = .int .i64 j ∧ Below W4.heap.size W4 wy) (fun v _ => x.maps.length - (intOf v).toNat)
        case atStart => exact ⟨0, Nat.zero_le _, rfl, Below.refl _ _⟩
        case round =>
          clear ya0 yb0 ya1 yb1 ya2 yb2 ya3 yb3 ya4 yb4 ya5 yb5 ya6 yb6 ya7 yb7 ya8 yb8 ya9 yb9
          obtain ⟨j, hj, rfl, hBj⟩ := hrel
          obtain ⟨Y, rfl⟩ : ∃ V, V = wr := ⟨_, rfl⟩
          have HBj := Lib.hid hBj
          have HKXj := Lib.hid (HKX4.out.below hBj HKX4.out.lt)
          have HKYj := Lib.hid (HKY4.out.below hBj HKY4.out.lt)
          have e1 : Y.cell? ⟨gx, 7, none⟩ = some (.slice M1 x.maps.length m1) := HKXj.out.cell 7
          have e2 : Y.cell? ⟨gy, 7, none⟩ = some (.slice M2 x.maps.length m2) := HKYj.out.cell 7
          have hbw := HB4.out.trans (hBj.mono HB4.out.size)
          clear hBj
          by_cases hjl : j < x.maps.length
          · obtain ⟨A1', c1', hv1, hlm1, hcm1', hat1⟩ := rd_at mapC_len HM1.out
            obtain ⟨A2', c2', hv2, hlm2, hcm2', hat2⟩ := rd_at mapC_len HM2.out
            injection hv1 with a1 _ a3
            subst a1
            subst a3
            injection hv2 with a1 _ a3
            subst a1
            subst a3
            obtain ⟨q1, vs1, rfl, hq1, _, hvs1, hc1⟩ := hat1 j hjl
            obtain ⟨q2, vs2, rfl, hq2, _, hvs2, hc2⟩ := hat2 j hjl
            generalize x.maps[j] = y at *
            obtain rfl := rd_mapC hvs1
            obtain rfl := rd_mapC hvs2
            have z0 : Y.cell? ⟨q1, j * 2, none⟩ = some (.string y.inner) := (hbw.cell (p := ⟨q1, j * 2, none⟩) hq1).trans (hc1 0 (by omega))
            have z1 : Y.cell? ⟨q1, j * 2 + 1, none⟩ = some (.string y.outer) := (hbw.cell (p := ⟨q1, j * 2 + 1, none⟩) hq1).trans (hc1 1 (by omega))
            have z2 : Y.cell? ⟨q2, j * 2, none⟩ = some (.string y.inner) := (hbw.cell (p := ⟨q2, j * 2, none⟩) hq2).trans (hc2 0 (by omega))
            have z3 : Y.cell? ⟨q2, j * 2 + 1, none⟩ = some (.string y.outer) := (hbw.cell (p := ⟨q2, j * 2 + 1, none⟩) hq2).trans (hc2 1 (by omega))
            have hm1' : x.maps.length ≤ maxLen := by omega
            unfold maxLen at hm1'
            clear hat1 hat2 hvs1 hvs2 hc1 hc2 hbw hcm1' hcm2'
            go_upto_region 12 with fail
            go_quiet (fail)
            go_wp2_with fail
            go_roundw
            case rel => exact ⟨j + 1, by omega, by go_num, below_drewN HBj.out _⟩
            case measure => simp [intOf]; omega
          · have HN := Lib.hid hbw
            clear hbw
            go_wp2_with fail
            go_roundw
            case rel => exact ⟨k + 1, by omega, by go_num, HN.out⟩
            case measure => simp [intOf]; omega
    · go_wp2_with fail
      go_ret
      exact ⟨rfl, HB.out⟩
theorem same_items : ∀ n, SameC n
  | 0 => same_step 0 (fun e h => by omega)
  | n + 1 => same_step (n + 1) (fun e h => by
    injection h with h
    subst h
    exact same_items n)

end Go.Proofs.Yteoioboiniealaa
