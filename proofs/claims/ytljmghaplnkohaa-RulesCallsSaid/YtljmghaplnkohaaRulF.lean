/- slices.IndexFunc and slices.ContainsFunc at texts, maps and what follows what, by any function that has a contract. -/
import Derived.Test.YtljmghaplnkohaaCon
import Derived.Test.YtljmghaplnkohaaFindP
namespace Go.Proofs.Ytljmghaplnkohaa
open Go.RowKit

set_option maxHeartbeats 1000000 in
theorem findQL_any {p1 : Value} {w : World} {v : Value} {l : List SeqD} (pf : SeqD → Bool) (hcl : ∀ x ∈ l, ∀ W, Below w.heap.size w W → Calls Try.prog 69 #[.agg #[.string x.id, .string x.src, .string x.dst], p1] W fun e w' => e = .returned (.bool (pf x)) ∧ Below W.heap.size W w') (hv : Rd w (seqsD l) v) :
    Calls Try.prog 79 #[v, .func (.func 69) #[] #[p1]] w fun e w' => e = .returned (.int .i64 (findFrom pf l 0)) ∧ Below w.heap.size w w' := by
  obtain ⟨A, c, rfl, hlc, hcm, hat⟩ := rd_at seqC_len hv
  have hmx : l.length ≤ maxLen := by omega
  unfold maxLen at hmx
  have HAT := Lib.hid hat
  have HCL := Lib.hid hcl
  clear hat hv hcm hcl
  go_enter Try.func79, Try.ntmps79
  go_wp2_with fail
  go_loopw [8] (fun v wr => ∃ k : Nat, k ≤ l.length ∧ v = .int .i64 k ∧ Hid (findFrom pf l 0 = findFrom pf (l.drop k) k) ∧ Below w.heap.size w wr) (fun v _ => l.length - (intOf v).toNat)
  case atStart => exact ⟨0, Nat.zero_le _, rfl, rfl, Below.refl _ _⟩
  case round =>
    obtain ⟨k, hk, rfl, hinv, hB⟩ := hrel
    have HB := Lib.hid hB
    have hsz := hB.size
    clear hB
    by_cases hlt : k < l.length
    · obtain ⟨b, vs, rfl, hbl, _, hvs, hcell⟩ := HAT.out k hlt
      have hd : l.drop k = l[k] :: l.drop (k + 1) := List.drop_eq_getElem_cons hlt
      have hi := hinv.out
      rw [hd, findFrom] at hi
      have hsp := HCL.out l[k] (List.getElem_mem hlt) wr HB.out
      generalize l[k] = x at *
      obtain rfl := rd_seqC hvs
      have x0 : wr.cell? ⟨b, k * 3, none⟩ = some (.string x.id) := (HB.out.cell (p := ⟨b, k * 3, none⟩) hbl).trans (hcell 0 (by omega))
      have x1 : wr.cell? ⟨b, k * 3 + 1, none⟩ = some (.string x.src) := (HB.out.cell (p := ⟨b, k * 3 + 1, none⟩) hbl).trans (hcell 1 (by omega))
      have x2 : wr.cell? ⟨b, k * 3 + 2, none⟩ = some (.string x.dst) := (HB.out.cell (p := ⟨b, k * 3 + 2, none⟩) hbl).trans (hcell 2 (by omega))
      have HSP := Lib.hid hsp
      clear hcell hd hinv hsp hvs
      cases ht : pf x
      · rw [ht] at HSP
        rw [ht, if_neg Bool.false_ne_true] at hi
        have Hi := Lib.hid hi
        clear hi ht
        go_wp2_with fail
        refine HSP.out.mono ?_
        rintro e w1 ⟨rfl, hb1⟩
        go_wp2_with fail
        go_roundw
        case rel => exact ⟨k + 1, by omega, by go_num, Hi, HB.out.trans (hb1.mono hsz)⟩
        case measure => simp [intOf]; omega
      · rw [ht] at HSP
        rw [ht, if_pos (rfl : true = true)] at hi
        have Hi := Lib.hid hi
        clear hi ht
        go_wp2_with fail
        refine HSP.out.mono ?_
        rintro e w1 ⟨rfl, hb1⟩
        go_wp2_with fail
        go_ret
        exact ⟨by rw [Hi.out]; rfl, HB.out.trans (hb1.mono hsz)⟩
    · have hi := hinv.out
      rw [List.drop_eq_nil_of_le (by omega), findFrom] at hi
      have Hi := Lib.hid hi
      clear hi
      go_wp2_with fail
      go_ret
      exact ⟨by rw [Hi.out]; rfl, HB.out⟩
theorem anyQL_any {p1 : Value} {w : World} {v : Value} {l : List SeqD} (pf : SeqD → Bool) (hcl : ∀ x ∈ l, ∀ W, Below w.heap.size w W → Calls Try.prog 69 #[.agg #[.string x.id, .string x.src, .string x.dst], p1] W fun e w' => e = .returned (.bool (pf x)) ∧ Below W.heap.size W w') (hv : Rd w (seqsD l) v) :
    Calls Try.prog 65 #[v, .func (.func 69) #[] #[p1]] w fun e w' => e = .returned (.bool (l.any pf)) ∧ Below w.heap.size w w' := by
  have hf := findQL_any pf hcl hv
  have hfin := findFrom_ge pf l 0
  obtain ⟨r, hr⟩ : ∃ r, r = l.any pf := ⟨_, rfl⟩
  rw [← hr] at hfin ⊢
  have HF := Lib.hid hf
  have Hfin := Lib.hid hfin
  clear hf hr hcl hfin hv
  go_enter Try.func65, Try.ntmps65
  go_wp2_with fail
  refine HF.out.mono ?_
  rintro e w' ⟨rfl, hb⟩
  generalize findFrom pf l 0 = q at *
  go_wp2_with fail
  go_ret
  exact ⟨ret_bool (by have := Hfin.out; simpa using this), hb⟩

set_option maxHeartbeats 1000000 in
theorem findMP_any {p1 : Value} {w : World} {v : Value} {l : List MapD} (pf : MapD → Bool) (hcl : ∀ x ∈ l, ∀ W, Below w.heap.size w W → Calls Try.prog 86 #[.agg #[.string x.inner, .string x.outer], p1] W fun e w' => e = .returned (.bool (pf x)) ∧ Below W.heap.size W w') (hv : Rd w (mapsD l) v) :
    Calls Try.prog 78 #[v, .func (.func 86) #[] #[p1]] w fun e w' => e = .returned (.int .i64 (findFrom pf l 0)) ∧ Below w.heap.size w w' := by
  obtain ⟨A, c, rfl, hlc, hcm, hat⟩ := rd_atO mapC_len hv
  have hmx : l.length ≤ maxLen := by omega
  unfold maxLen at hmx
  have HAT := Lib.hid hat
  have HCL := Lib.hid hcl
  clear hat hv hcm hcl
  go_enter Try.func78, Try.ntmps78
  go_wp2_with fail
  go_loopw [8] (fun v wr => ∃ k : Nat, k ≤ l.length ∧ v = .int .i64 k ∧ Hid (findFrom pf l 0 = findFrom pf (l.drop k) k) ∧ Below w.heap.size w wr) (fun v _ => l.length - (intOf v).toNat)
  case atStart => exact ⟨0, Nat.zero_le _, rfl, rfl, Below.refl _ _⟩
  case round =>
    obtain ⟨k, hk, rfl, hinv, hB⟩ := hrel
    have HB := Lib.hid hB
    have hsz := hB.size
    clear hB
    by_cases hlt : k < l.length
    · obtain ⟨b, o, rfl, hbl, hat2⟩ := HAT.out (by omega)
      obtain ⟨vs, _, hvs, hcell⟩ := hat2 k hlt
      clear hat2
      have hd : l.drop k = l[k] :: l.drop (k + 1) := List.drop_eq_getElem_cons hlt
      have hi := hinv.out
      rw [hd, findFrom] at hi
      have hsp := HCL.out l[k] (List.getElem_mem hlt) wr HB.out
      generalize l[k] = x at *
      obtain rfl := rd_mapC hvs
      have x0 : wr.cell? ⟨b, o + k * 2, none⟩ = some (.string x.inner) := (HB.out.cell (p := ⟨b, o + k * 2, none⟩) hbl).trans (hcell 0 (by omega))
      have x1 : wr.cell? ⟨b, o + k * 2 + 1, none⟩ = some (.string x.outer) := (HB.out.cell (p := ⟨b, o + k * 2 + 1, none⟩) hbl).trans (hcell 1 (by omega))
      have HSP := Lib.hid hsp
      clear hcell hd hinv hsp hvs
      cases ht : pf x
      · rw [ht] at HSP
        rw [ht, if_neg Bool.false_ne_true] at hi
        have Hi := Lib.hid hi
        clear hi ht
        go_wp2_with fail
        refine HSP.out.mono ?_
        rintro e w1 ⟨rfl, hb1⟩
        go_wp2_with fail
        go_roundw
        case rel => exact ⟨k + 1, by omega, by go_num, Hi, HB.out.trans (hb1.mono hsz)⟩
        case measure => simp [intOf]; omega
      · rw [ht] at HSP
        rw [ht, if_pos (rfl : true = true)] at hi
        have Hi := Lib.hid hi
        clear hi ht
        go_wp2_with fail
        refine HSP.out.mono ?_
        rintro e w1 ⟨rfl, hb1⟩
        go_wp2_with fail
        go_ret
        exact ⟨by rw [Hi.out]; rfl, HB.out.trans (hb1.mono hsz)⟩
    · have hi := hinv.out
      rw [List.drop_eq_nil_of_le (by omega), findFrom] at hi
      have Hi := Lib.hid hi
      clear hi
      go_wp2_with fail
      go_ret
      exact ⟨by rw [Hi.out]; rfl, HB.out⟩
theorem anyMP_any {p1 : Value} {w : World} {v : Value} {l : List MapD} (pf : MapD → Bool) (hcl : ∀ x ∈ l, ∀ W, Below w.heap.size w W → Calls Try.prog 86 #[.agg #[.string x.inner, .string x.outer], p1] W fun e w' => e = .returned (.bool (pf x)) ∧ Below W.heap.size W w') (hv : Rd w (mapsD l) v) :
    Calls Try.prog 63 #[v, .func (.func 86) #[] #[p1]] w fun e w' => e = .returned (.bool (l.any pf)) ∧ Below w.heap.size w w' := by
  have hf := findMP_any pf hcl hv
  have hfin := findFrom_ge pf l 0
  obtain ⟨r, hr⟩ : ∃ r, r = l.any pf := ⟨_, rfl⟩
  rw [← hr] at hfin ⊢
  have HF := Lib.hid hf
  have Hfin := Lib.hid hfin
  clear hf hr hcl hfin hv
  go_enter Try.func63, Try.ntmps63
  go_wp2_with fail
  refine HF.out.mono ?_
  rintro e w' ⟨rfl, hb⟩
  generalize findFrom pf l 0 = q at *
  go_wp2_with fail
  go_ret
  exact ⟨ret_bool (by have := Hfin.out; simpa using this), hb⟩

end Go.Proofs.Ytljmghaplnkohaa
