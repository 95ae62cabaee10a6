/- The law's own word flowed. -/
import Derived.Test.YteoioboiniealaaInlB
import Derived.Test.YteoioboiniealaaReg
import Derived.Test.YteoioboiniealaaBlk
import Derived.Deep.DeepCutAuto
namespace Go.Proofs.Yteoioboiniealaa
open Go.RowKit

set_option maxRecDepth 100000 in
set_option maxHeartbeats 2000000 in
theorem flowed_any {w : World} {v : Value} {l : List SeqD} (p : ByteArray) (hp : p.size ≤ 1000000) (hv : Rd w (seqsD l) v) (hl : l.length ≤ 1000000) (hsm : ∀ x ∈ l, x.id.size ≤ 1000000 ∧ x.src.size ≤ 1000000 ∧ x.dst.size ≤ 1000000) :
    Calls Try.prog 20 #[v, .string p] w fun e w' => ∃ A c, e = .returned (.slice A l.length c) ∧ RdP (fun b => w.heap.size ≤ b) w' (seqsD (l.map (seqF p))) (.slice A l.length c) ∧ Below w.heap.size w w' := by
  obtain ⟨i0, hi0, hz0, hz1, hz2⟩ := info_parts Try.infoSeq
  obtain ⟨A, c, rfl, hlc, hcm, hat⟩ := rd_at seqC_len hv
  have HAT := Lib.hid hat
  have HSM := Lib.hid hsm
  obtain ⟨M, hM⟩ : ∃ M, M = l.map (seqF p) := ⟨_, rfl⟩
  have hMl : M.length = l.length := by rw [hM]; simp
  have HM := Lib.hid hM
  have HML := Lib.hid hMl
  have h0 : (w.alloc (.cells #[] 36)).ownsRow w.heap.size 36 3 (.slice (some ⟨w.heap.size, 0, none⟩) 0 0) 0 [] := World.ownsRow_lit (base := w.heap.size) w #[] 0 (Nat.le_refl _) (by decide) rfl
  have H0 := Lib.hid h0
  clear hat hv hcm hsm hM hMl h0
  go_enter Try.func20, Try.ntmps20
  go_wp2_with fail
  go_loopw [5, 6] (fun v iv wr => ∃ k : Nat, k ≤ l.length ∧ iv = .int .i64 k ∧ wr.ownsRow w.heap.size 36 3 v k ((M.take k).flatMap seqV) ∧ Below w.heap.size w wr) (fun _ iv _ => l.length - (intOf iv).toNat)
  case atStart => exact ⟨0, Nat.zero_le _, rfl, H0.out, (Below.refl _ _).alloc (Nat.le_refl _) _⟩
  case round =>
    obtain ⟨k, hk, rfl, hO, hB⟩ := hrel
    obtain ⟨V, rfl⟩ : ∃ V, V = wr := ⟨_, rfl⟩
    have HB := Lib.hid hB
    have hsz := hB.size
    obtain ⟨A5, c5, rfl, _, _⟩ := own_slice hO
    by_cases hlt : k < l.length
    · obtain ⟨b, vs, rfl, hbl, _, hvs, hcell⟩ := HAT.out k hlt
      have hsx := HSM.out l[k] (List.getElem_mem hlt)
      have hst : (M.take (k + 1)).flatMap seqV = (M.take k).flatMap seqV ++ [.string (p ++ l[k].id), .string (p ++ l[k].src), .string (p ++ l[k].dst)] := by
        rw [List.take_succ_eq_append_getElem (by rw [HML.out]; exact hlt), List.flatMap_append]
        congr 1
        rw [List.flatMap_cons, List.flatMap_nil, List.append_nil]
        simp only [HM.out, List.getElem_map]
        rfl
      generalize l[k] = x at *
      obtain rfl := rd_seqC hvs
      have HX0 := Lib.hid (show w.cell? ⟨b, k * 3, none⟩ = some (.string x.id) from hcell 0 (by omega))
      have HX1 := Lib.hid (show w.cell? ⟨b, k * 3 + 1, none⟩ = some (.string x.src) from hcell 1 (by omega))
      have HX2 := Lib.hid (show w.cell? ⟨b, k * 3 + 2, none⟩ = some (.string x.dst) from hcell 2 (by omega))
      obtain ⟨xs, hxs⟩ : ∃ xs, xs = (M.take k).flatMap seqV := ⟨_, rfl⟩
      rw [← hxs] at hO hst
      have HO := Lib.hid hO
      have HST := Lib.hid hst
      have hc1 : ¬ 9223372036854775807 < p.size + x.id.size := by omega
      have hc2 : ¬ 9223372036854775807 < p.size + x.src.size := by omega
      have hc3 : ¬ 9223372036854775807 < p.size + x.dst.size := by omega
      have hkI : (k : Int) < (l.length : Int) := by omega
      have hlm : (l.length : Int) ≤ 1000000 := by omega
      have d0 := HB.out.drew
      clear hcell hvs hsx hO hst hB hxs
      go_upto_region 5 with fail
      refine wp_region_HT 25 (fun U => Below w.heap.size w U) (by kernel_rfl) (by decide) (d0) (fun hHeld => ?_)
      refine ht_take 0 (v := ?vf_1) rfl (by kernel_rfl) (fun _ _ _ h => h) (Or.inl ⟨by rfl, ?hf_1⟩) hHeld ?rf_1
      case hf_1 => ((intro U hSw; have y0 := (hSw.cell (p := ⟨b, k * 3, none⟩) hbl).trans HX0.out; have y1 := (hSw.cell (p := ⟨b, k * 3 + 1, none⟩) hbl).trans HX1.out; have y2 := (hSw.cell (p := ⟨b, k * 3 + 2, none⟩) hbl).trans HX2.out; go_simp; (try simp only [if_neg hc1, if_neg hc2, if_neg hc3])); (try (with_reducible rfl)))
      try simp only [Act.put, List.setIfInBounds_toArray, List.set_cons_zero, List.set_cons_succ]
      refine ht_take 1 (v := ?vf_2) rfl (by kernel_rfl) (fun _ _ _ h => h) (Or.inl ⟨by rfl, ?hf_2⟩) hHeld ?rf_2
      case hf_2 => ((intro U hSw; have y0 := (hSw.cell (p := ⟨b, k * 3, none⟩) hbl).trans HX0.out; have y1 := (hSw.cell (p := ⟨b, k * 3 + 1, none⟩) hbl).trans HX1.out; have y2 := (hSw.cell (p := ⟨b, k * 3 + 2, none⟩) hbl).trans HX2.out; go_simp; (try simp only [if_neg hc1, if_neg hc2, if_neg hc3])); (try (with_reducible rfl)))
      try simp only [Act.put, List.setIfInBounds_toArray, List.set_cons_zero, List.set_cons_succ]
      refine ht_take 2 (v := ?vf_3) rfl (by kernel_rfl) (fun _ _ _ h => h) (Or.inl ⟨by rfl, ?hf_3⟩) hHeld ?rf_3
      case hf_3 => ((intro U hSw; have y0 := (hSw.cell (p := ⟨b, k * 3, none⟩) hbl).trans HX0.out; have y1 := (hSw.cell (p := ⟨b, k * 3 + 1, none⟩) hbl).trans HX1.out; have y2 := (hSw.cell (p := ⟨b, k * 3 + 2, none⟩) hbl).trans HX2.out; go_simp; (try simp only [if_neg hc1, if_neg hc2, if_neg hc3])); (try (with_reducible rfl)))
      try simp only [Act.put, List.setIfInBounds_toArray, List.set_cons_zero, List.set_cons_succ]
      refine ht_take 3 (v := ?vf_4) rfl (by kernel_rfl) (fun _ _ _ h => h) (Or.inl ⟨by rfl, ?hf_4⟩) hHeld ?rf_4
      case hf_4 => ((intro U hSw; have y0 := (hSw.cell (p := ⟨b, k * 3, none⟩) hbl).trans HX0.out; have y1 := (hSw.cell (p := ⟨b, k * 3 + 1, none⟩) hbl).trans HX1.out; have y2 := (hSw.cell (p := ⟨b, k * 3 + 2, none⟩) hbl).trans HX2.out; go_simp; (try simp only [if_neg hc1, if_neg hc2, if_neg hc3])); (try (with_reducible rfl)))
      try simp only [Act.put, List.setIfInBounds_toArray, List.set_cons_zero, List.set_cons_succ]
      refine ht_take 4 (v := ?vf_5) rfl (by kernel_rfl) (fun _ _ _ h => h) (Or.inl ⟨by rfl, ?hf_5⟩) hHeld ?rf_5
      case hf_5 => ((intro U hSw; have y0 := (hSw.cell (p := ⟨b, k * 3, none⟩) hbl).trans HX0.out; have y1 := (hSw.cell (p := ⟨b, k * 3 + 1, none⟩) hbl).trans HX1.out; have y2 := (hSw.cell (p := ⟨b, k * 3 + 2, none⟩) hbl).trans HX2.out; go_simp; (try simp only [if_neg hc1, if_neg hc2, if_neg hc3])); (try (with_reducible rfl)))
      try simp only [Act.put, List.setIfInBounds_toArray, List.set_cons_zero, List.set_cons_succ]
      refine ht_take 5 (v := ?vf_6) rfl (by kernel_rfl) (fun _ _ _ h => h) (Or.inl ⟨by rfl, ?hf_6⟩) hHeld ?rf_6
      case hf_6 => ((intro U hSw; have y0 := (hSw.cell (p := ⟨b, k * 3, none⟩) hbl).trans HX0.out; have y1 := (hSw.cell (p := ⟨b, k * 3 + 1, none⟩) hbl).trans HX1.out; have y2 := (hSw.cell (p := ⟨b, k * 3 + 2, none⟩) hbl).trans HX2.out; go_simp; (try simp only [if_neg hc1, if_neg hc2, if_neg hc3])); (try (with_reducible rfl)))
      try simp only [Act.put, List.setIfInBounds_toArray, List.set_cons_zero, List.set_cons_succ]
      refine ht_take 6 (v := ?vf_7) rfl (by kernel_rfl) (fun _ _ _ h => h) (Or.inl ⟨by rfl, ?hf_7⟩) hHeld ?rf_7
      case hf_7 => ((intro U hSw; have y0 := (hSw.cell (p := ⟨b, k * 3, none⟩) hbl).trans HX0.out; have y1 := (hSw.cell (p := ⟨b, k * 3 + 1, none⟩) hbl).trans HX1.out; have y2 := (hSw.cell (p := ⟨b, k * 3 + 2, none⟩) hbl).trans HX2.out; go_simp; (try simp only [if_neg hc1, if_neg hc2, if_neg hc3])); (try (with_reducible rfl)))
      try simp only [Act.put, List.setIfInBounds_toArray, List.set_cons_zero, List.set_cons_succ]
      refine ht_take 7 (v := ?vf_8) rfl (by kernel_rfl) (fun _ _ _ h => h) (Or.inl ⟨by rfl, ?hf_8⟩) hHeld ?rf_8
      case hf_8 => ((intro U hSw; have y0 := (hSw.cell (p := ⟨b, k * 3, none⟩) hbl).trans HX0.out; have y1 := (hSw.cell (p := ⟨b, k * 3 + 1, none⟩) hbl).trans HX1.out; have y2 := (hSw.cell (p := ⟨b, k * 3 + 2, none⟩) hbl).trans HX2.out; go_simp; (try simp only [if_neg hc1, if_neg hc2, if_neg hc3])); (try (with_reducible rfl)))
      try simp only [Act.put, List.setIfInBounds_toArray, List.set_cons_zero, List.set_cons_succ]
      refine ht_take 8 (v := ?vf_9) rfl (by kernel_rfl) (fun _ _ _ h => h) (Or.inl ⟨by rfl, ?hf_9⟩) hHeld ?rf_9
      case hf_9 => ((intro U hSw; have y0 := (hSw.cell (p := ⟨b, k * 3, none⟩) hbl).trans HX0.out; have y1 := (hSw.cell (p := ⟨b, k * 3 + 1, none⟩) hbl).trans HX1.out; have y2 := (hSw.cell (p := ⟨b, k * 3 + 2, none⟩) hbl).trans HX2.out; go_simp; (try simp only [if_neg hc1, if_neg hc2, if_neg hc3])); (try (with_reducible rfl)))
      try simp only [Act.put, List.setIfInBounds_toArray, List.set_cons_zero, List.set_cons_succ]
      refine ht_take 9 (v := ?vf_10) rfl (by kernel_rfl) (fun _ _ _ h => h) (Or.inl ⟨by rfl, ?hf_10⟩) hHeld ?rf_10
      case hf_10 => ((intro U hSw; have y0 := (hSw.cell (p := ⟨b, k * 3, none⟩) hbl).trans HX0.out; have y1 := (hSw.cell (p := ⟨b, k * 3 + 1, none⟩) hbl).trans HX1.out; have y2 := (hSw.cell (p := ⟨b, k * 3 + 2, none⟩) hbl).trans HX2.out; go_simp; (try simp only [if_neg hc1, if_neg hc2, if_neg hc3])); (try (with_reducible rfl)))
      try simp only [Act.put, List.setIfInBounds_toArray, List.set_cons_zero, List.set_cons_succ]
      refine ht_take 10 (v := ?vf_11) rfl (by kernel_rfl) (fun _ _ _ h => h) (Or.inl ⟨by rfl, ?hf_11⟩) hHeld ?rf_11
      case hf_11 => ((intro U hSw; have y0 := (hSw.cell (p := ⟨b, k * 3, none⟩) hbl).trans HX0.out; have y1 := (hSw.cell (p := ⟨b, k * 3 + 1, none⟩) hbl).trans HX1.out; have y2 := (hSw.cell (p := ⟨b, k * 3 + 2, none⟩) hbl).trans HX2.out; go_simp; (try simp only [if_neg hc1, if_neg hc2, if_neg hc3])); (try (with_reducible rfl)))
      try simp only [Act.put, List.setIfInBounds_toArray, List.set_cons_zero, List.set_cons_succ]
      refine ht_take 11 (v := ?vf_12) rfl (by kernel_rfl) (fun _ _ _ h => h) (Or.inl ⟨by rfl, ?hf_12⟩) hHeld ?rf_12
      case hf_12 => ((intro U hSw; have y0 := (hSw.cell (p := ⟨b, k * 3, none⟩) hbl).trans HX0.out; have y1 := (hSw.cell (p := ⟨b, k * 3 + 1, none⟩) hbl).trans HX1.out; have y2 := (hSw.cell (p := ⟨b, k * 3 + 2, none⟩) hbl).trans HX2.out; go_simp; (try simp only [if_neg hc1, if_neg hc2, if_neg hc3])); (try (with_reducible rfl)))
      try simp only [Act.put, List.setIfInBounds_toArray, List.set_cons_zero, List.set_cons_succ]
      refine ht_take 12 (v := ?vf_13) rfl (by kernel_rfl) (fun _ _ _ h => h) (Or.inl ⟨by rfl, ?hf_13⟩) hHeld ?rf_13
      case hf_13 => ((intro U hSw; have y0 := (hSw.cell (p := ⟨b, k * 3, none⟩) hbl).trans HX0.out; have y1 := (hSw.cell (p := ⟨b, k * 3 + 1, none⟩) hbl).trans HX1.out; have y2 := (hSw.cell (p := ⟨b, k * 3 + 2, none⟩) hbl).trans HX2.out; go_simp; (try simp only [if_neg hc1, if_neg hc2, if_neg hc3])); (try (with_reducible rfl)))
      try simp only [Act.put, List.setIfInBounds_toArray, List.set_cons_zero, List.set_cons_succ]
      refine ht_take 13 (v := ?vf_14) rfl (by kernel_rfl) (fun _ _ _ h => h) (Or.inl ⟨by rfl, ?hf_14⟩) hHeld ?rf_14
      case hf_14 => ((intro U hSw; have y0 := (hSw.cell (p := ⟨b, k * 3, none⟩) hbl).trans HX0.out; have y1 := (hSw.cell (p := ⟨b, k * 3 + 1, none⟩) hbl).trans HX1.out; have y2 := (hSw.cell (p := ⟨b, k * 3 + 2, none⟩) hbl).trans HX2.out; go_simp; (try simp only [if_neg hc1, if_neg hc2, if_neg hc3])); (try (with_reducible rfl)))
      try simp only [Act.put, List.setIfInBounds_toArray, List.set_cons_zero, List.set_cons_succ]
      refine ht_take 14 (v := ?vf_15) rfl (by kernel_rfl) (fun _ _ _ h => h) (Or.inl ⟨by rfl, ?hf_15⟩) hHeld ?rf_15
      case hf_15 => ((intro U hSw; have y0 := (hSw.cell (p := ⟨b, k * 3, none⟩) hbl).trans HX0.out; have y1 := (hSw.cell (p := ⟨b, k * 3 + 1, none⟩) hbl).trans HX1.out; have y2 := (hSw.cell (p := ⟨b, k * 3 + 2, none⟩) hbl).trans HX2.out; go_simp; (try simp only [if_neg hc1, if_neg hc2, if_neg hc3])); (try (with_reducible rfl)))
      try simp only [Act.put, List.setIfInBounds_toArray, List.set_cons_zero, List.set_cons_succ]
      refine ht_take 15 (v := ?vf_16) rfl (by kernel_rfl) (fun _ _ _ h => h) (Or.inl ⟨by rfl, ?hf_16⟩) hHeld ?rf_16
      case hf_16 => ((intro U hSw; have y0 := (hSw.cell (p := ⟨b, k * 3, none⟩) hbl).trans HX0.out; have y1 := (hSw.cell (p := ⟨b, k * 3 + 1, none⟩) hbl).trans HX1.out; have y2 := (hSw.cell (p := ⟨b, k * 3 + 2, none⟩) hbl).trans HX2.out; go_simp; (try simp only [if_neg hc1, if_neg hc2, if_neg hc3])); (try (with_reducible rfl)))
      try simp only [Act.put, List.setIfInBounds_toArray, List.set_cons_zero, List.set_cons_succ]
      refine ht_take 16 (v := ?vf_17) rfl (by kernel_rfl) (fun _ _ _ h => h) (Or.inl ⟨by rfl, ?hf_17⟩) hHeld ?rf_17
      case hf_17 => ((intro U hSw; have y0 := (hSw.cell (p := ⟨b, k * 3, none⟩) hbl).trans HX0.out; have y1 := (hSw.cell (p := ⟨b, k * 3 + 1, none⟩) hbl).trans HX1.out; have y2 := (hSw.cell (p := ⟨b, k * 3 + 2, none⟩) hbl).trans HX2.out; go_simp; (try simp only [if_neg hc1, if_neg hc2, if_neg hc3])); (try (with_reducible rfl)))
      try simp only [Act.put, List.setIfInBounds_toArray, List.set_cons_zero, List.set_cons_succ]
      refine ht_take 17 (v := ?vf_18) rfl (by kernel_rfl) (fun _ _ _ h => h) (Or.inl ⟨by rfl, ?hf_18⟩) hHeld ?rf_18
      case hf_18 => ((intro U hSw; have y0 := (hSw.cell (p := ⟨b, k * 3, none⟩) hbl).trans HX0.out; have y1 := (hSw.cell (p := ⟨b, k * 3 + 1, none⟩) hbl).trans HX1.out; have y2 := (hSw.cell (p := ⟨b, k * 3 + 2, none⟩) hbl).trans HX2.out; go_simp; (try simp only [if_neg hc1, if_neg hc2, if_neg hc3])); (try (with_reducible rfl)))
      try simp only [Act.put, List.setIfInBounds_toArray, List.set_cons_zero, List.set_cons_succ]
      refine ht_take 18 (v := ?vf_19) rfl (by kernel_rfl) (fun _ _ _ h => h) (Or.inl ⟨by rfl, ?hf_19⟩) hHeld ?rf_19
      case hf_19 => ((intro U hSw; have y0 := (hSw.cell (p := ⟨b, k * 3, none⟩) hbl).trans HX0.out; have y1 := (hSw.cell (p := ⟨b, k * 3 + 1, none⟩) hbl).trans HX1.out; have y2 := (hSw.cell (p := ⟨b, k * 3 + 2, none⟩) hbl).trans HX2.out; go_simp; (try simp only [if_neg hc1, if_neg hc2, if_neg hc3])); (try (with_reducible rfl)))
      try simp only [Act.put, List.setIfInBounds_toArray, List.set_cons_zero, List.set_cons_succ]
      refine ht_take 19 (v := ?vf_20) rfl (by kernel_rfl) (fun _ _ _ h => h) (Or.inl ⟨by rfl, ?hf_20⟩) hHeld ?rf_20
      case hf_20 => ((intro U hSw; have y0 := (hSw.cell (p := ⟨b, k * 3, none⟩) hbl).trans HX0.out; have y1 := (hSw.cell (p := ⟨b, k * 3 + 1, none⟩) hbl).trans HX1.out; have y2 := (hSw.cell (p := ⟨b, k * 3 + 2, none⟩) hbl).trans HX2.out; go_simp; (try simp only [if_neg hc1, if_neg hc2, if_neg hc3])); (try (with_reducible rfl)))
      try simp only [Act.put, List.setIfInBounds_toArray, List.set_cons_zero, List.set_cons_succ]
      refine ht_take 20 (v := ?vf_21) rfl (by kernel_rfl) (fun _ _ _ h => h) (Or.inl ⟨by rfl, ?hf_21⟩) hHeld ?rf_21
      case hf_21 => ((intro U hSw; have y0 := (hSw.cell (p := ⟨b, k * 3, none⟩) hbl).trans HX0.out; have y1 := (hSw.cell (p := ⟨b, k * 3 + 1, none⟩) hbl).trans HX1.out; have y2 := (hSw.cell (p := ⟨b, k * 3 + 2, none⟩) hbl).trans HX2.out; go_simp; (try simp only [if_neg hc1, if_neg hc2, if_neg hc3])); (try (with_reducible rfl)))
      try simp only [Act.put, List.setIfInBounds_toArray, List.set_cons_zero, List.set_cons_succ]
      refine ht_take 21 (v := ?vf_22) rfl (by kernel_rfl) (fun _ _ _ h => h) (Or.inl ⟨by rfl, ?hf_22⟩) hHeld ?rf_22
      case hf_22 => ((intro U hSw; have y0 := (hSw.cell (p := ⟨b, k * 3, none⟩) hbl).trans HX0.out; have y1 := (hSw.cell (p := ⟨b, k * 3 + 1, none⟩) hbl).trans HX1.out; have y2 := (hSw.cell (p := ⟨b, k * 3 + 2, none⟩) hbl).trans HX2.out; go_simp; (try simp only [if_neg hc1, if_neg hc2, if_neg hc3])); (try (with_reducible rfl)))
      try simp only [Act.put, List.setIfInBounds_toArray, List.set_cons_zero, List.set_cons_succ]
      refine ht_take 22 (v := ?vf_23) rfl (by kernel_rfl) (fun _ _ _ h => h) (Or.inl ⟨by rfl, ?hf_23⟩) hHeld ?rf_23
      case hf_23 => ((intro U hSw; have y0 := (hSw.cell (p := ⟨b, k * 3, none⟩) hbl).trans HX0.out; have y1 := (hSw.cell (p := ⟨b, k * 3 + 1, none⟩) hbl).trans HX1.out; have y2 := (hSw.cell (p := ⟨b, k * 3 + 2, none⟩) hbl).trans HX2.out; go_simp; (try simp only [if_neg hc1, if_neg hc2, if_neg hc3])); (try (with_reducible rfl)))
      try simp only [Act.put, List.setIfInBounds_toArray, List.set_cons_zero, List.set_cons_succ]
      refine ht_one 23 rfl (by kernel_rfl) (fun K hK => ?_)
      go_simp
      obtain ⟨gG, hgG⟩ : ∃ g, g = V.heap.size := ⟨_, rfl⟩
      obtain ⟨T1, hT⟩ : ∃ T, T = V.drew.alloc (.cells #[.string (p ++ x.id), .string (p ++ x.src), .string (p ++ x.dst)] 36) := ⟨_, rfl⟩
      have d1 : Below w.heap.size w T1 := by rw [hT]; exact d0.alloc d0.size _
      have kG1 : Blk T1 gG 36 #[.string (p ++ x.id), .string (p ++ x.src), .string (p ++ x.dst)] := by rw [hT, hgG]; exact Blk.new _ _ _
      have o1 : T1.ownsRow w.heap.size 36 3 (.slice A5 k c5) k xs := by rw [hT]; exact HO.out.alloc _
      show K _ ((V.drew).alloc (.cells #[.string (p ++ x.id), .string (p ++ x.src), .string (p ++ x.dst)] 36))
      rw [← hT, ← hgG]
      clear hT hgG
      refine hK.out _ _ (d1) (fun hHeld => ?_)
      clear hK K
      try simp only [Act.put, List.setIfInBounds_toArray, List.set_cons_zero, List.set_cons_succ]
      refine ht_one 24 rfl (by kernel_rfl) (fun K hK => ?_)
      refine step_append_lies _ (by rfl) (.tmp 14) (.tmp 37) _ (by rfl) w.heap.size 36 i0 _ 3 48 Try.underlying26 hi0 hz0 hz1 hz2 rfl (by omega) (.slice A5 k c5) k xs (by rfl) o1 ⟨gG, 0, none⟩ 1 1 [.string (p ++ x.id), .string (p ++ x.src), .string (p ++ x.dst)] (by rfl) (by rfl) (World.news_of_block (cs := #[.string (p ++ x.id), .string (p ++ x.src), .string (p ++ x.dst)]) (t := 36) (fr := (0, 0)) kG1) (by simp [Value.oneCell']) (by omega) (by unfold maxLen; omega) (by omega) (by have := d1.size; omega) _ rfl ?_
      intro gX capX T2 hownX hgrowX _ _
      have d2 : Below w.heap.size w T2 := d1.grown hgrowX d1.size (fun j hj => (o1.lt j hj).1)
      clear hgrowX
      refine hK.out _ _ (d2) (fun hHeld => ?_)
      clear hK K
      try simp only [Act.put, List.setIfInBounds_toArray, List.set_cons_zero, List.set_cons_succ]
      refine ht_done (by kernel_rfl) rfl ?_
      rw [← HST.out] at hownX
      have HN := Lib.hid hownX
      clear hownX
      go_wp2_with fail
      go_roundw
      case rel => exact ⟨k + 1, by omega, by go_num, HN.out, d2⟩
      case measure => simp [intOf]; omega
    · have hkI : ¬ (k : Int) < (l.length : Int) := by omega
      have hkl : k = l.length := by omega
      have hmt : M.take k = M := List.take_of_length_le (by rw [HML.out]; omega)
      rw [hmt, hkl] at hO
      have HO := Lib.hid hO
      clear hO hB hmt
      go_wp2_with fail
      go_ret
      subst hkl
      exact ⟨A5, c5, rfl, by rw [← HM.out]; have h := HO.out; rw [← HML.out] at h ⊢; exact rdp_of_own h (fun _ h => h) (rdpl_seqV M), HB.out⟩
end Go.Proofs.Yteoioboiniealaa
