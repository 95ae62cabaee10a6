/- The contract of Leave. -/
import Derived.Test.YtgdkmipkgjkjjaaSpaceG
import Derived.Test.YtgdkmipkgjkjjaaRegA
import Derived.Deep.DeepCutAuto
import Derived.Deep.CutBlock
import Derived.Deep.QuietTactic
import Derived.Deep.LoopGhost
namespace Go.Proofs.Ytgdkmipkgjkjjaa
open Go.RowKit

theorem own_slice {w : World} {base e size n : Nat} {v : Value} {xs : List Value} (h : w.ownsRow base e size v n xs) : ∃ A c, v = .slice A n c ∧ n ≤ c ∧ c ≤ maxLen := by
  rcases h.2 with ⟨h1, h2⟩ | ⟨g, cap, cur, hv, _, _, h3, h4, _⟩
  · exact ⟨none, 0, by rw [h1, h2], by omega, by unfold maxLen; omega⟩
  · exact ⟨_, cap, hv, h3, h4⟩
/-- The row of a Spaces is cut at its end. -/
theorem Sp.cut {w : World} {base g A cap : Nat} {bs cs : List Bind} {d : Int} (h : Sp w base g A cap (bs ++ cs) d) : Sp (w.setCell ⟨g, 0, none⟩ (.slice (some ⟨A, 0, none⟩) bs.length cap)) base g A cap bs d := by
  have hb := h.blk
  refine ⟨?_, ?_, h.hg, h.ne⟩
  · simp [World.setCell, Array.getElem?_modify, hb]
  · rcases h.own.2 with ⟨h0, _⟩ | ⟨g', cap', cur, hv, hbg, hg, h1, h2, h3, h4⟩
    · cases h0
    · injection hv with e1 _ e3
      injection e1 with e1
      injection e1 with e1
      subst e1
      subst e3
      refine ⟨flatB_length bs, .inr ⟨A, cap, cur, rfl, hbg, ?_, by simp at h1; omega, h2, h3, ?_⟩⟩
      · exact (Below.heap_setCell w ⟨g, 0, none⟩ _ A h.ne).trans hg
      · have hl := flatB_length bs
        have h5 : (flatB bs ++ flatB cs).take (bs.length * 3) = flatB bs := by rw [List.take_append_of_le_length (by omega), List.take_of_length_le (by omega)]
        have := congrArg (List.take (bs.length * 3)) h4
        rw [List.take_take, flatB_append, h5, Nat.min_eq_left (by simp; omega)] at this
        exact this
theorem leave_zero {w : World} {base g A cap : Nat} {bs : List Bind} (h : Sp w base g A cap bs 0) : Calls Try.prog 38 #[.pointer (some ⟨g, 0, none⟩)] w fun e w' => e = .returned (.tuple #[]) ∧ w = w' := by
  obtain ⟨_, hc, _, _⟩ := h.cells
  clear h
  go_enter Try.func38, Try.ntmps38
  go_wp2_with fail
  refine bodyPost_ret (results_none rfl _ _ _) rfl ?_
  exact ⟨rfl, rfl⟩

set_option maxHeartbeats 1000000 in
theorem leave_any {w : World} {base g A cap : Nat} {bs cs : List Bind} {d : Int} (h : Sp w base g A cap (bs ++ cs) d) (hd : d ≠ 0) (hd0 : 0 ≤ d) (hd1 : d ≤ 1000000) (hcs : ∀ b ∈ cs, b.2.2 = d) (hbs : ∀ b ∈ bs, b.2.2 ≠ d) (hl : (bs ++ cs).length ≤ 1000) :
    Calls Try.prog 38 #[.pointer (some ⟨g, 0, none⟩)] w fun e w' => e = .returned (.tuple #[]) ∧ Sp w' base g A cap bs (d - 1) ∧ Far w w' g A := by
  obtain ⟨hc0, hc1, _, _⟩ := h.cells
  have hdb : (d == 0) = false := by simpa using hd
  have H := Lib.hid h
  have HCS := Lib.hid hcs
  have HBS := Lib.hid hbs
  have HC0 := Lib.hid hc0
  have HLEN := Lib.hid hl
  clear h hcs hbs hc0 hl
  go_enter Try.func38, Try.ntmps38
  go_wp2_with fail
  go_loopg [] cs.length (fun n wr => ∃ c1 : List Bind, c1.length = n ∧ (∀ b ∈ c1, b.2.2 = d) ∧ Sp wr base g A cap (bs ++ c1) d ∧ Far w wr g A ∧ c1.length ≤ cs.length)
  case atStart => exact ⟨cs, rfl, HCS.out, H.out, Far.refl _ _ _, Nat.le_refl _⟩
  case round =>
    obtain ⟨c1, hc, hc1d, hS, hF, hcl⟩ := hrel
    rcases List.eq_nil_or_concat c1 with hc1 | ⟨c2, b, hc1⟩
    · subst hc1
      rw [List.append_nil] at hS
      rcases List.eq_nil_or_concat bs with hb0 | ⟨r, b, hbr⟩
      · obtain ⟨y0, y1, f0, f1⟩ := hS.cells
        have hcap := hS.cap_le
        have hlt := hS.lt
        unfold maxLen at hcap
        rw [hb0] at y0
        simp only [List.length_nil] at y0
        have HS := Lib.hid hS
        have HF := Lib.hid hF
        clear hS hF hb0
        go_upto_region 1 with fail
        go_quiet (fail)
        have HSq := Lib.hid (HS.out.drewN nq)
        have HFq := Lib.hid (HF.out.drewN nq)
        obtain ⟨w4, hw4⟩ : ∃ U, U = wr.drewN nq := ⟨_, rfl⟩
        rw [← hw4] at HSq HFq
        rw [← hw4]
        obtain ⟨y0', y1', f0', f1'⟩ := HSq.out.cells
        have hlt' := HSq.out.lt
        clear hw4 y0 y1 f0 f1
        go_wp2_with fail
        refine bodyPost_end (results_none rfl _ _ _) rfl ?_
        exact ⟨rfl, HSq.out.setDepth _, HFq.out.setCell (.inl rfl) _⟩
      · rw [List.concat_eq_append] at hbr
        obtain ⟨k, hk⟩ : ∃ k, k = r.length := ⟨_, rfl⟩
        have hL : bs.length = k + 1 := by rw [hbr, hk]; simp
        obtain ⟨y0, y1, f0, f1⟩ := hS.cells
        have hcap := hS.cap_le
        have hlt := hS.lt
        unfold maxLen at hcap
        obtain ⟨hq1, hq2, hb3⟩ := hS.bind k (by omega)
        clear hq1 hq2
        have hbk : bs[k]'(by omega) = b := by
          have : bs[k]? = some b := by rw [hbr, hk]; simp
          rw [List.getElem?_eq_getElem (by omega)] at this
          exact Option.some.inj this
        rw [hbk] at hb3
        rw [hL] at y0 hcap
        have hbd : b.2.2 ≠ d := HBS.out b (by rw [hbr]; simp)
        obtain ⟨z, hz⟩ : ∃ z, z = b.2.2 := ⟨_, rfl⟩
        rw [← hz] at hb3 hbd
        have hzb : (z == d) = false := by simpa using hbd
        have hl1000 : k ≤ 1000 := by have h := HLEN.out; rw [List.length_append] at h; omega
        have HS := Lib.hid hS
        have HF := Lib.hid hF
        clear hS hF hbr hk hL hbk hbd hz
        go_upto_region 1 with fail
        go_quiet (fail)
        have HSq := Lib.hid (HS.out.drewN nq)
        have HFq := Lib.hid (HF.out.drewN nq)
        obtain ⟨w4, hw4⟩ : ∃ U, U = wr.drewN nq := ⟨_, rfl⟩
        rw [← hw4] at HSq HFq
        rw [← hw4]
        obtain ⟨y0', y1', f0', f1'⟩ := HSq.out.cells
        have hlt' := HSq.out.lt
        clear hw4 y0 y1 f0 f1
        go_wp2_with fail
        refine bodyPost_end (results_none rfl _ _ _) rfl ?_
        exact ⟨rfl, HSq.out.setDepth _, HFq.out.setCell (.inl rfl) _⟩
    · rw [List.concat_eq_append] at hc1
      obtain ⟨k, hk⟩ : ∃ k, k = (bs ++ c2).length := ⟨_, rfl⟩
      have hbc : bs ++ c1 = (bs ++ c2) ++ [b] := by rw [hc1]; simp
      have hL : (bs ++ c1).length = k + 1 := by rw [hbc, hk]; simp; omega
      obtain ⟨y0, y1, f0, f1⟩ := hS.cells
      have hcap := hS.cap_le
      have hlt := hS.lt
      unfold maxLen at hcap
      obtain ⟨hq1, hq2, hb3⟩ := hS.bind k (by omega)
      clear hq1 hq2
      have hbk : (bs ++ c1)[k]'(by omega) = b := by
        have : (bs ++ c1)[k]? = some b := by rw [hbc, hk]; simp
        rw [List.getElem?_eq_getElem (by omega)] at this
        exact Option.some.inj this
      rw [hbk, hc1d b (by rw [hc1]; simp)] at hb3
      have hN := Sp.cut (cs := [b]) (by rw [← hbc]; exact hS)
      rw [← hk] at hN
      rw [hL] at y0 hcap
      have hl1000 : k ≤ 1000 := by have h := HLEN.out; rw [List.length_append] at h; rw [hk, List.length_append]; rw [hc1, List.length_append] at hcl; simp at hcl; omega
      have hc2 : ∀ b ∈ c2, b.2.2 = d := fun b hb => hc1d b (by rw [hc1]; simp [hb])
      have hcc : c2.length + 1 = c1.length := by rw [hc1]; simp
      have hFN := fun (n : Nat) => (hF.drewN n)
      have hS2 := hS
      have HS := Lib.hid hS
      have HF := Lib.hid hF
      have HC2 := Lib.hid hc2
      have HBC := Lib.hid hbc
      have HK := Lib.hid hk
      clear hS hS2 hF hFN hN hbc hk hL hbk hc2 hc1 hc1d
      go_upto_region 1 with fail
      go_quiet (fail)
      have HSq := Lib.hid (HS.out.drewN nq)
      have HFq := Lib.hid (HF.out.drewN nq)
      obtain ⟨w4, hw4⟩ : ∃ U, U = wr.drewN nq := ⟨_, rfl⟩
      have y0q : w4.cell? ⟨g, 0, none⟩ = some (.slice (some ⟨A, 0, none⟩) (k + 1) cap) := by rw [hw4]; exact y0
      rw [← hw4] at HSq HFq
      rw [← hw4]
      have HN : Hid (Sp (w4.drew.setCell ⟨g, 0, none⟩ (.slice (some ⟨A, 0, none⟩) k cap)) base g A cap (bs ++ c2) d) := Lib.hid (by
        have h1 : Sp w4.drew base g A cap ((bs ++ c2) ++ [b]) d := by rw [← HBC.out]; exact HSq.out.drewN 1
        have := h1.cut
        rwa [← HK.out] at this)
      have HFN := Lib.hid (HFq.out.drew.setCell (p := ⟨g, 0, none⟩) (.inl rfl) (.slice (some ⟨A, 0, none⟩) k cap))
      have f0q : w4.frozen? ⟨g, 0, none⟩ = false := HSq.out.cells.2.2.1
      have hltq := HSq.out.lt
      clear hw4 y0 y1 f0 f1
      have hwk : IntKind.i64.wrap (k : Int) = (k : Int) := by rw [IntKind.wrap_i64]; omega
      have hkc : (0 : Int) ≤ (k : Int) ∧ (k : Int) ≤ (cap : Int) := by omega
      go_upto_region 2 with fail
      refine wp_region_HT 14 (fun U => U.cell? ⟨g, 0, none⟩ = some (.slice (some ⟨A, 0, none⟩) (k + 1) cap)) (by kernel_rfl) (by decide) (y0q) (fun hHeld => ?_)
      refine ht_take 0 (v := ?va_1) rfl (by kernel_rfl) (fun _ _ _ h => h) (Or.inl ⟨by rfl, ?ha_1⟩) hHeld ?ra_1
      case ha_1 => ((intro U hSw; have y0 : U.cell? ⟨g, 0, none⟩ = some (.slice (some ⟨A, 0, none⟩) (k + 1) cap) := hSw; go_simp; (try simp only [hwk, if_pos hkc, Int.toNat_natCast])); (try (with_reducible rfl)))
      try simp only [Act.put, List.setIfInBounds_toArray, List.set_cons_zero, List.set_cons_succ]
      refine ht_take 1 (v := ?va_2) rfl (by kernel_rfl) (fun _ _ _ h => h) (Or.inl ⟨by rfl, ?ha_2⟩) hHeld ?ra_2
      case ha_2 => ((intro U hSw; have y0 : U.cell? ⟨g, 0, none⟩ = some (.slice (some ⟨A, 0, none⟩) (k + 1) cap) := hSw; go_simp; (try simp only [hwk, if_pos hkc, Int.toNat_natCast])); (try (with_reducible rfl)))
      try simp only [Act.put, List.setIfInBounds_toArray, List.set_cons_zero, List.set_cons_succ]
      refine ht_take 2 (v := ?va_3) rfl (by kernel_rfl) (fun _ _ _ h => h) (Or.inl ⟨by rfl, ?ha_3⟩) hHeld ?ra_3
      case ha_3 => ((intro U hSw; have y0 : U.cell? ⟨g, 0, none⟩ = some (.slice (some ⟨A, 0, none⟩) (k + 1) cap) := hSw; go_simp; (try simp only [hwk, if_pos hkc, Int.toNat_natCast])); (try (with_reducible rfl)))
      try simp only [Act.put, List.setIfInBounds_toArray, List.set_cons_zero, List.set_cons_succ]
      refine ht_take 3 (v := ?va_4) rfl (by kernel_rfl) (fun _ _ _ h => h) (Or.inl ⟨by rfl, ?ha_4⟩) hHeld ?ra_4
      case ha_4 => ((intro U hSw; have y0 : U.cell? ⟨g, 0, none⟩ = some (.slice (some ⟨A, 0, none⟩) (k + 1) cap) := hSw; go_simp; (try simp only [hwk, if_pos hkc, Int.toNat_natCast])); (try (with_reducible rfl)))
      try simp only [Act.put, List.setIfInBounds_toArray, List.set_cons_zero, List.set_cons_succ]
      refine ht_take 4 (v := ?va_5) rfl (by kernel_rfl) (fun _ _ _ h => h) (Or.inl ⟨by rfl, ?ha_5⟩) hHeld ?ra_5
      case ha_5 => ((intro U hSw; have y0 : U.cell? ⟨g, 0, none⟩ = some (.slice (some ⟨A, 0, none⟩) (k + 1) cap) := hSw; go_simp; (try simp only [hwk, if_pos hkc, Int.toNat_natCast])); (try (with_reducible rfl)))
      try simp only [Act.put, List.setIfInBounds_toArray, List.set_cons_zero, List.set_cons_succ]
      refine ht_take 5 (v := ?va_6) rfl (by kernel_rfl) (fun _ _ _ h => h) (Or.inl ⟨by rfl, ?ha_6⟩) hHeld ?ra_6
      case ha_6 => ((intro U hSw; have y0 : U.cell? ⟨g, 0, none⟩ = some (.slice (some ⟨A, 0, none⟩) (k + 1) cap) := hSw; go_simp; (try simp only [hwk, if_pos hkc, Int.toNat_natCast])); (try (with_reducible rfl)))
      try simp only [Act.put, List.setIfInBounds_toArray, List.set_cons_zero, List.set_cons_succ]
      refine ht_take 6 (v := ?va_7) rfl (by kernel_rfl) (fun _ _ _ h => h) (Or.inl ⟨by rfl, ?ha_7⟩) hHeld ?ra_7
      case ha_7 => ((intro U hSw; have y0 : U.cell? ⟨g, 0, none⟩ = some (.slice (some ⟨A, 0, none⟩) (k + 1) cap) := hSw; go_simp; (try simp only [hwk, if_pos hkc, Int.toNat_natCast])); (try (with_reducible rfl)))
      try simp only [Act.put, List.setIfInBounds_toArray, List.set_cons_zero, List.set_cons_succ]
      refine ht_take 7 (v := ?va_8) rfl (by kernel_rfl) (fun _ _ _ h => h) (Or.inl ⟨by rfl, ?ha_8⟩) hHeld ?ra_8
      case ha_8 => ((intro U hSw; have y0 : U.cell? ⟨g, 0, none⟩ = some (.slice (some ⟨A, 0, none⟩) (k + 1) cap) := hSw; go_simp; (try simp only [hwk, if_pos hkc, Int.toNat_natCast])); (try (with_reducible rfl)))
      try simp only [Act.put, List.setIfInBounds_toArray, List.set_cons_zero, List.set_cons_succ]
      refine ht_take 8 (v := ?va_9) rfl (by kernel_rfl) (fun _ _ _ h => h) (Or.inl ⟨by rfl, ?ha_9⟩) hHeld ?ra_9
      case ha_9 => ((intro U hSw; have y0 : U.cell? ⟨g, 0, none⟩ = some (.slice (some ⟨A, 0, none⟩) (k + 1) cap) := hSw; go_simp; (try simp only [hwk, if_pos hkc, Int.toNat_natCast])); (try (with_reducible rfl)))
      try simp only [Act.put, List.setIfInBounds_toArray, List.set_cons_zero, List.set_cons_succ]
      refine ht_take 9 (v := ?va_10) rfl (by kernel_rfl) (fun _ _ _ h => h) (Or.inl ⟨by rfl, ?ha_10⟩) hHeld ?ra_10
      case ha_10 => ((intro U hSw; have y0 : U.cell? ⟨g, 0, none⟩ = some (.slice (some ⟨A, 0, none⟩) (k + 1) cap) := hSw; go_simp; (try simp only [hwk, if_pos hkc, Int.toNat_natCast])); (try (with_reducible rfl)))
      try simp only [Act.put, List.setIfInBounds_toArray, List.set_cons_zero, List.set_cons_succ]
      refine ht_take 10 (v := ?va_11) rfl (by kernel_rfl) (fun _ _ _ h => h) (Or.inl ⟨by rfl, ?ha_11⟩) hHeld ?ra_11
      case ha_11 => ((intro U hSw; have y0 : U.cell? ⟨g, 0, none⟩ = some (.slice (some ⟨A, 0, none⟩) (k + 1) cap) := hSw; go_simp; (try simp only [hwk, if_pos hkc, Int.toNat_natCast])); (try (with_reducible rfl)))
      try simp only [Act.put, List.setIfInBounds_toArray, List.set_cons_zero, List.set_cons_succ]
      refine ht_take 11 (v := ?va_12) rfl (by kernel_rfl) (fun _ _ _ h => h) (Or.inl ⟨by rfl, ?ha_12⟩) hHeld ?ra_12
      case ha_12 => ((intro U hSw; have y0 : U.cell? ⟨g, 0, none⟩ = some (.slice (some ⟨A, 0, none⟩) (k + 1) cap) := hSw; go_simp; (try simp only [hwk, if_pos hkc, Int.toNat_natCast])); (try (with_reducible rfl)))
      try simp only [Act.put, List.setIfInBounds_toArray, List.set_cons_zero, List.set_cons_succ]
      refine ht_take 12 (v := ?va_13) rfl (by kernel_rfl) (fun _ _ _ h => h) (Or.inl ⟨by rfl, ?ha_13⟩) hHeld ?ra_13
      case ha_13 => ((intro U hSw; have y0 : U.cell? ⟨g, 0, none⟩ = some (.slice (some ⟨A, 0, none⟩) (k + 1) cap) := hSw; go_simp; (try simp only [hwk, if_pos hkc, Int.toNat_natCast])); (try (with_reducible rfl)))
      try simp only [Act.put, List.setIfInBounds_toArray, List.set_cons_zero, List.set_cons_succ]
      refine ht_take 13 (v := ?va_14) rfl (by kernel_rfl) (fun _ _ _ h => h) (Or.inl ⟨by rfl, ?ha_14⟩) hHeld ?ra_14
      case ha_14 => ((intro U hSw; have y0 : U.cell? ⟨g, 0, none⟩ = some (.slice (some ⟨A, 0, none⟩) (k + 1) cap) := hSw; go_simp; (try simp only [hwk, if_pos hkc, Int.toNat_natCast])); (try (with_reducible rfl)))
      try simp only [Act.put, List.setIfInBounds_toArray, List.set_cons_zero, List.set_cons_succ]
      refine ht_done (by kernel_rfl) rfl ?_
      go_wp2_with fail
      go_roundg c2.length
      case measure => omega
      case rel => exact ⟨c2, rfl, HC2.out, HN.out, HFN.out, by omega⟩
end Go.Proofs.Ytgdkmipkgjkjjaa
