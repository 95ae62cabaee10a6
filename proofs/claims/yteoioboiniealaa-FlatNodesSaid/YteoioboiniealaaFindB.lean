/- The places of ids: the contracts of ids.Chor, Item, Flow. -/
import Derived.Test.YteoioboiniealaaItem
import Derived.Test.YteoioboiniealaaFind0
namespace Go.Proofs.Yteoioboiniealaa
open Go.RowKit

theorem chor1_any (x : ChorD) (s : ByteArray) {w : World} {a : Nat} {vP vF vI vS : Value} (ha : w.cell? ⟨a, 0, none⟩ = some (.string s)) (hal : a < w.heap.size) :
    Calls Try.prog 69 #[.agg #[.string x.id, vP, vF, vI, vS], .pointer (some ⟨a, 0, none⟩)] w fun e w' => e = .returned (.bool (eqS x.id s)) ∧ Below w.heap.size w w' := by
  go_enter Try.func69, Try.ntmps69
  go_wp2_with fail
  go_ret
  exact ⟨rfl, (Below.refl _ _).alloc (Nat.le_refl _) _⟩

set_option maxHeartbeats 1000000 in
theorem findChor_any {w : World} {v : Value} {l : List ChorD} (s : ByteArray) {a : Nat} (ha : w.cell? ⟨a, 0, none⟩ = some (.string s)) (hal : a < w.heap.size) (hv : Rd w (chorsD l) v) :
    Calls Try.prog 68 #[v, .func (.func 69) #[] #[.pointer (some ⟨a, 0, none⟩)]] w fun e w' => e = .returned (.int .i64 (findFrom (fun x : ChorD => eqS x.id s) l 0)) ∧ Below w.heap.size w w' := by
  obtain ⟨A, c, rfl, hlc, hcm, hat⟩ := rd_at chorC_len hv
  have hmx : l.length ≤ maxLen := by omega
  unfold maxLen at hmx
  have HAT := Lib.hid hat
  have HA := Lib.hid ha
  clear hat ha hv hcm
  obtain ⟨pf, hpf⟩ : ∃ pf : ChorD → Bool, pf = fun x => eqS x.id s := ⟨_, rfl⟩
  rw [← hpf]
  have HP := Lib.hid hpf
  clear hpf
  go_enter Try.func68, Try.ntmps68
  go_wp2_with fail
  go_loopw [8] (fun v wr => ∃ k : Nat, k ≤ l.length ∧ v = .int .i64 k ∧ Hid (findFrom pf l 0 = findFrom pf (l.drop k) k) ∧ Below w.heap.size w wr) (fun v _ => l.length - (intOf v).toNat)
  case atStart => exact ⟨0, Nat.zero_le _, rfl, rfl, Below.refl _ _⟩
  case round =>
    obtain ⟨k, hk, rfl, hinv, hB⟩ := hrel
    have HB := Lib.hid hB
    have hsz := hB.size
    clear hB
    by_cases hlt : k < l.length
    · obtain ⟨b, vs, rfl, hbl, _, hvs, hcell⟩ := HAT.out k hlt
      have hd : l.drop k = l[k] :: l.drop (k + 1) := List.drop_eq_getElem_cons hlt
      have hi := hinv.out
      rw [hd, findFrom] at hi
      have hpk : pf l[k] = eqS l[k].id s := by rw [HP.out]
      generalize l[k] = x at *
      obtain ⟨vP, vF, vI, vS, rfl, hV⟩ := rd_chorC.1 hvs
      have x0 : wr.cell? ⟨b, k * 5, none⟩ = some (.string x.id) := (HB.out.cell (p := ⟨b, k * 5, none⟩) hbl).trans (hcell 0 (by omega))
      have x1 : wr.cell? ⟨b, k * 5 + 1, none⟩ = some (vP) := (HB.out.cell (p := ⟨b, k * 5 + 1, none⟩) hbl).trans (hcell 1 (by omega))
      have x2 : wr.cell? ⟨b, k * 5 + 2, none⟩ = some (vF) := (HB.out.cell (p := ⟨b, k * 5 + 2, none⟩) hbl).trans (hcell 2 (by omega))
      have x3 : wr.cell? ⟨b, k * 5 + 3, none⟩ = some (vI) := (HB.out.cell (p := ⟨b, k * 5 + 3, none⟩) hbl).trans (hcell 3 (by omega))
      have x4 : wr.cell? ⟨b, k * 5 + 4, none⟩ = some (vS) := (HB.out.cell (p := ⟨b, k * 5 + 4, none⟩) hbl).trans (hcell 4 (by omega))
      have hsp := fun W (hc : W.cell? ⟨a, 0, none⟩ = some (.string s)) (h : a < W.heap.size) => chor1_any x s (vP := vP) (vF := vF) (vI := vI) (vS := vS) (w := W) (a := a) hc h
      have hca := (HB.out.cell (p := ⟨a, 0, none⟩) hal).trans HA.out
      rw [← hpk] at hsp
      have hal2 : a < wr.heap.size := by omega
      have HSP := Lib.hid hsp
      have HCA := Lib.hid hca
      clear hcell hd hinv hpk hsp hca hvs hV
      cases ht : pf x
      · rw [ht] at HSP
        rw [ht, if_neg Bool.false_ne_true] at hi
        have Hi := Lib.hid hi
        clear hi ht
        go_wp2_with fail
        refine (HSP.out _ HCA.out hal2).mono ?_
        rintro e w1 ⟨rfl, hb1⟩
        go_wp2_with fail
        go_roundw
        case rel => exact ⟨k + 1, by omega, by go_num, Hi, HB.out.trans (hb1.mono hsz)⟩
        case measure => simp [intOf]; omega
      · rw [ht] at HSP
        rw [ht, if_pos (rfl : true = true)] at hi
        have Hi := Lib.hid hi
        clear hi ht
        go_wp2_with fail
        refine (HSP.out _ HCA.out hal2).mono ?_
        rintro e w1 ⟨rfl, hb1⟩
        go_wp2_with fail
        go_ret
        exact ⟨by rw [Hi.out]; rfl, HB.out.trans (hb1.mono hsz)⟩
    · have hi := hinv.out
      rw [List.drop_eq_nil_of_le (by omega), findFrom] at hi
      have Hi := Lib.hid hi
      clear hi
      go_wp2_with fail
      go_ret
      exact ⟨by rw [Hi.out]; rfl, HB.out⟩

/-- ids.Chor. -/
theorem idsChor_any {w : World} {vM v : Value} {l : List ChorD} (s : ByteArray) (hv : Rd w (chorsD l) v) :
    Calls Try.prog 44 #[.agg #[vM, v], .string s] w fun e w' => e = .returned (.int .i64 (findFrom (fun x : ChorD => eqS x.id s) l 0)) ∧ Below w.heap.size w w' := by
  have hfd := fun (W1 : World) (hb : Below w.heap.size w W1) (hc : W1.cell? ⟨w.heap.size + 1, 0, none⟩ = some (.string s)) (h : w.heap.size + 1 < W1.heap.size) => findChor_any s hc h (Rd.below hb _ _ hv)
  have HFD := Lib.hid hfd
  have hsl := rd_sl.1 hv
  obtain ⟨A, c, xs, rfl, _, _⟩ := hsl
  clear hv hfd
  go_enter Try.func44, Try.ntmps44
  go_wp2_with fail
  refine (HFD.out _ (((Below.refl _ _).alloc (Nat.le_refl _) _).alloc (by simp) _) (by simp) (by simp)).mono ?_
  rintro e w1 ⟨rfl, hb1⟩
  go_wp2_with fail
  go_ret
  exact ⟨rfl, (((Below.refl _ _).alloc (Nat.le_refl _) _).alloc (by simp) _).trans (hb1.mono (by simp; omega))⟩

theorem item1_any (x : ItemD) (s : ByteArray) {w : World} {a : Nat} {vP vF vM vI vS : Value} (ha : w.cell? ⟨a, 0, none⟩ = some (.string s)) (hal : a < w.heap.size) :
    Calls Try.prog 80 #[.agg #[.int .i64 x.kind, .string x.id, .string x.first, vP, vF, .bool x.loop, .string x.called, vM, vI, vS], .pointer (some ⟨a, 0, none⟩)] w fun e w' => e = .returned (.bool (eqS x.id s)) ∧ Below w.heap.size w w' := by
  go_enter Try.func80, Try.ntmps80
  go_wp2_with fail
  go_ret
  exact ⟨rfl, (Below.refl _ _).alloc (Nat.le_refl _) _⟩

set_option maxHeartbeats 1000000 in
theorem findItem_any {w : World} {v : Value} {l : List ItemD} (s : ByteArray) {a : Nat} (ha : w.cell? ⟨a, 0, none⟩ = some (.string s)) (hal : a < w.heap.size) (hv : Rd w (itemsD l) v) :
    Calls Try.prog 74 #[v, .func (.func 80) #[] #[.pointer (some ⟨a, 0, none⟩)]] w fun e w' => e = .returned (.int .i64 (findFrom (fun x : ItemD => eqS x.id s) l 0)) ∧ Below w.heap.size w w' := by
  obtain ⟨A, c, rfl, hlc, hcm, hat⟩ := rd_at itemC_len hv
  have hmx : l.length ≤ maxLen := by omega
  unfold maxLen at hmx
  have HAT := Lib.hid hat
  have HA := Lib.hid ha
  clear hat ha hv hcm
  obtain ⟨pf, hpf⟩ : ∃ pf : ItemD → Bool, pf = fun x => eqS x.id s := ⟨_, rfl⟩
  rw [← hpf]
  have HP := Lib.hid hpf
  clear hpf
  go_enter Try.func74, Try.ntmps74
  go_wp2_with fail
  go_loopw [8] (fun v wr => ∃ k : Nat, k ≤ l.length ∧ v = .int .i64 k ∧ Hid (findFrom pf l 0 = findFrom pf (l.drop k) k) ∧ Below w.heap.size w wr) (fun v _ => l.length - (intOf v).toNat)
  case atStart => exact ⟨0, Nat.zero_le _, rfl, rfl, Below.refl _ _⟩
  case round =>
    obtain ⟨k, hk, rfl, hinv, hB⟩ := hrel
    have HB := Lib.hid hB
    have hsz := hB.size
    clear hB
    by_cases hlt : k < l.length
    · obtain ⟨b, vs, rfl, hbl, _, hvs, hcell⟩ := HAT.out k hlt
      have hd : l.drop k = l[k] :: l.drop (k + 1) := List.drop_eq_getElem_cons hlt
      have hi := hinv.out
      rw [hd, findFrom] at hi
      have hpk : pf l[k] = eqS l[k].id s := by rw [HP.out]
      generalize l[k] = x at *
      obtain ⟨vP, vF, vM, vI, vS, rfl, hV⟩ := rd_itemC.1 hvs
      have x0 : wr.cell? ⟨b, k * 10, none⟩ = some (.int .i64 x.kind) := (HB.out.cell (p := ⟨b, k * 10, none⟩) hbl).trans (hcell 0 (by omega))
      have x1 : wr.cell? ⟨b, k * 10 + 1, none⟩ = some (.string x.id) := (HB.out.cell (p := ⟨b, k * 10 + 1, none⟩) hbl).trans (hcell 1 (by omega))
      have x2 : wr.cell? ⟨b, k * 10 + 2, none⟩ = some (.string x.first) := (HB.out.cell (p := ⟨b, k * 10 + 2, none⟩) hbl).trans (hcell 2 (by omega))
      have x3 : wr.cell? ⟨b, k * 10 + 3, none⟩ = some (vP) := (HB.out.cell (p := ⟨b, k * 10 + 3, none⟩) hbl).trans (hcell 3 (by omega))
      have x4 : wr.cell? ⟨b, k * 10 + 4, none⟩ = some (vF) := (HB.out.cell (p := ⟨b, k * 10 + 4, none⟩) hbl).trans (hcell 4 (by omega))
      have x5 : wr.cell? ⟨b, k * 10 + 5, none⟩ = some (.bool x.loop) := (HB.out.cell (p := ⟨b, k * 10 + 5, none⟩) hbl).trans (hcell 5 (by omega))
      have x6 : wr.cell? ⟨b, k * 10 + 6, none⟩ = some (.string x.called) := (HB.out.cell (p := ⟨b, k * 10 + 6, none⟩) hbl).trans (hcell 6 (by omega))
      have x7 : wr.cell? ⟨b, k * 10 + 7, none⟩ = some (vM) := (HB.out.cell (p := ⟨b, k * 10 + 7, none⟩) hbl).trans (hcell 7 (by omega))
      have x8 : wr.cell? ⟨b, k * 10 + 8, none⟩ = some (vI) := (HB.out.cell (p := ⟨b, k * 10 + 8, none⟩) hbl).trans (hcell 8 (by omega))
      have x9 : wr.cell? ⟨b, k * 10 + 9, none⟩ = some (vS) := (HB.out.cell (p := ⟨b, k * 10 + 9, none⟩) hbl).trans (hcell 9 (by omega))
      have hsp := fun W (hc : W.cell? ⟨a, 0, none⟩ = some (.string s)) (h : a < W.heap.size) => item1_any x s (vP := vP) (vF := vF) (vM := vM) (vI := vI) (vS := vS) (w := W) (a := a) hc h
      have hca := (HB.out.cell (p := ⟨a, 0, none⟩) hal).trans HA.out
      rw [← hpk] at hsp
      have hal2 : a < wr.heap.size := by omega
      have HSP := Lib.hid hsp
      have HCA := Lib.hid hca
      clear hcell hd hinv hpk hsp hca hvs hV
      cases ht : pf x
      · rw [ht] at HSP
        rw [ht, if_neg Bool.false_ne_true] at hi
        have Hi := Lib.hid hi
        clear hi ht
        go_wp2_with fail
        refine (HSP.out _ HCA.out hal2).mono ?_
        rintro e w1 ⟨rfl, hb1⟩
        go_wp2_with fail
        go_roundw
        case rel => exact ⟨k + 1, by omega, by go_num, Hi, HB.out.trans (hb1.mono hsz)⟩
        case measure => simp [intOf]; omega
      · rw [ht] at HSP
        rw [ht, if_pos (rfl : true = true)] at hi
        have Hi := Lib.hid hi
        clear hi ht
        go_wp2_with fail
        refine (HSP.out _ HCA.out hal2).mono ?_
        rintro e w1 ⟨rfl, hb1⟩
        go_wp2_with fail
        go_ret
        exact ⟨by rw [Hi.out]; rfl, HB.out.trans (hb1.mono hsz)⟩
    · have hi := hinv.out
      rw [List.drop_eq_nil_of_le (by omega), findFrom] at hi
      have Hi := Lib.hid hi
      clear hi
      go_wp2_with fail
      go_ret
      exact ⟨by rw [Hi.out]; rfl, HB.out⟩

/-- ids.Item. -/
theorem idsItem_any {w : World} {v : Value} {l : List ItemD} (s : ByteArray) (hv : Rd w (itemsD l) v) :
    Calls Try.prog 64 #[v, .string s] w fun e w' => e = .returned (.int .i64 (findFrom (fun x : ItemD => eqS x.id s) l 0)) ∧ Below w.heap.size w w' := by
  have hfd := fun (W1 : World) (hb : Below w.heap.size w W1) (hc : W1.cell? ⟨w.heap.size, 0, none⟩ = some (.string s)) (h : w.heap.size < W1.heap.size) => findItem_any s hc h (Rd.below hb _ _ hv)
  have HFD := Lib.hid hfd
  have hsl := rd_sl.1 hv
  obtain ⟨A, c, xs, rfl, _, _⟩ := hsl
  clear hv hfd
  go_enter Try.func64, Try.ntmps64
  go_wp2_with fail
  refine (HFD.out _ ((Below.refl _ _).alloc (Nat.le_refl _) _) (by rw [cell_of_row _ w.heap.size 0 _ _ _ (heap_alloc_new w _)]; rfl) (by simp)).mono ?_
  rintro e w1 ⟨rfl, hb1⟩
  go_wp2_with fail
  go_ret
  exact ⟨rfl, ((Below.refl _ _).alloc (Nat.le_refl _) _).trans (hb1.mono (by simp))⟩

theorem flow1_any (x : FlowD) (s : ByteArray) {w : World} {a : Nat}  (ha : w.cell? ⟨a, 0, none⟩ = some (.string s)) (hal : a < w.heap.size) :
    Calls Try.prog 89 #[.agg #[.string x.id, .string x.src, .string x.dst, .string x.msg], .pointer (some ⟨a, 0, none⟩)] w fun e w' => e = .returned (.bool (eqS x.id s)) ∧ Below w.heap.size w w' := by
  go_enter Try.func89, Try.ntmps89
  go_wp2_with fail
  go_ret
  exact ⟨rfl, (Below.refl _ _).alloc (Nat.le_refl _) _⟩

set_option maxHeartbeats 1000000 in
theorem findFlow_any {w : World} {v : Value} {l : List FlowD} (s : ByteArray) {a : Nat} (ha : w.cell? ⟨a, 0, none⟩ = some (.string s)) (hal : a < w.heap.size) (hv : Rd w (flowsD l) v) :
    Calls Try.prog 88 #[v, .func (.func 89) #[] #[.pointer (some ⟨a, 0, none⟩)]] w fun e w' => e = .returned (.int .i64 (findFrom (fun x : FlowD => eqS x.id s) l 0)) ∧ Below w.heap.size w w' := by
  obtain ⟨A, c, rfl, hlc, hcm, hat⟩ := rd_at flowC_len hv
  have hmx : l.length ≤ maxLen := by omega
  unfold maxLen at hmx
  have HAT := Lib.hid hat
  have HA := Lib.hid ha
  clear hat ha hv hcm
  obtain ⟨pf, hpf⟩ : ∃ pf : FlowD → Bool, pf = fun x => eqS x.id s := ⟨_, rfl⟩
  rw [← hpf]
  have HP := Lib.hid hpf
  clear hpf
  go_enter Try.func88, Try.ntmps88
  go_wp2_with fail
  go_loopw [8] (fun v wr => ∃ k : Nat, k ≤ l.length ∧ v = .int .i64 k ∧ Hid (findFrom pf l 0 = findFrom pf (l.drop k) k) ∧ Below w.heap.size w wr) (fun v _ => l.length - (intOf v).toNat)
  case atStart => exact ⟨0, Nat.zero_le _, rfl, rfl, Below.refl _ _⟩
  case round =>
    obtain ⟨k, hk, rfl, hinv, hB⟩ := hrel
    have HB := Lib.hid hB
    have hsz := hB.size
    clear hB
    by_cases hlt : k < l.length
    · obtain ⟨b, vs, rfl, hbl, _, hvs, hcell⟩ := HAT.out k hlt
      have hd : l.drop k = l[k] :: l.drop (k + 1) := List.drop_eq_getElem_cons hlt
      have hi := hinv.out
      rw [hd, findFrom] at hi
      have hpk : pf l[k] = eqS l[k].id s := by rw [HP.out]
      generalize l[k] = x at *
      obtain rfl := rd_flowC hvs
      have x0 : wr.cell? ⟨b, k * 4, none⟩ = some (.string x.id) := (HB.out.cell (p := ⟨b, k * 4, none⟩) hbl).trans (hcell 0 (by omega))
      have x1 : wr.cell? ⟨b, k * 4 + 1, none⟩ = some (.string x.src) := (HB.out.cell (p := ⟨b, k * 4 + 1, none⟩) hbl).trans (hcell 1 (by omega))
      have x2 : wr.cell? ⟨b, k * 4 + 2, none⟩ = some (.string x.dst) := (HB.out.cell (p := ⟨b, k * 4 + 2, none⟩) hbl).trans (hcell 2 (by omega))
      have x3 : wr.cell? ⟨b, k * 4 + 3, none⟩ = some (.string x.msg) := (HB.out.cell (p := ⟨b, k * 4 + 3, none⟩) hbl).trans (hcell 3 (by omega))
      have hsp := fun W (hc : W.cell? ⟨a, 0, none⟩ = some (.string s)) (h : a < W.heap.size) => flow1_any x s  (w := W) (a := a) hc h
      have hca := (HB.out.cell (p := ⟨a, 0, none⟩) hal).trans HA.out
      rw [← hpk] at hsp
      have hal2 : a < wr.heap.size := by omega
      have HSP := Lib.hid hsp
      have HCA := Lib.hid hca
      clear hcell hd hinv hpk hsp hca hvs
      cases ht : pf x
      · rw [ht] at HSP
        rw [ht, if_neg Bool.false_ne_true] at hi
        have Hi := Lib.hid hi
        clear hi ht
        go_wp2_with fail
        refine (HSP.out _ HCA.out hal2).mono ?_
        rintro e w1 ⟨rfl, hb1⟩
        go_wp2_with fail
        go_roundw
        case rel => exact ⟨k + 1, by omega, by go_num, Hi, HB.out.trans (hb1.mono hsz)⟩
        case measure => simp [intOf]; omega
      · rw [ht] at HSP
        rw [ht, if_pos (rfl : true = true)] at hi
        have Hi := Lib.hid hi
        clear hi ht
        go_wp2_with fail
        refine (HSP.out _ HCA.out hal2).mono ?_
        rintro e w1 ⟨rfl, hb1⟩
        go_wp2_with fail
        go_ret
        exact ⟨by rw [Hi.out]; rfl, HB.out.trans (hb1.mono hsz)⟩
    · have hi := hinv.out
      rw [List.drop_eq_nil_of_le (by omega), findFrom] at hi
      have Hi := Lib.hid hi
      clear hi
      go_wp2_with fail
      go_ret
      exact ⟨by rw [Hi.out]; rfl, HB.out⟩

/-- ids.Flow. -/
theorem idsFlow_any {w : World} {vId vP v vI vS : Value} {l : List FlowD} (s : ByteArray) (hv : Rd w (flowsD l) v) :
    Calls Try.prog 84 #[.agg #[vId, vP, v, vI, vS], .string s] w fun e w' => e = .returned (.int .i64 (findFrom (fun x : FlowD => eqS x.id s) l 0)) ∧ Below w.heap.size w w' := by
  have hfd := fun (W1 : World) (hb : Below w.heap.size w W1) (hc : W1.cell? ⟨w.heap.size + 1, 0, none⟩ = some (.string s)) (h : w.heap.size + 1 < W1.heap.size) => findFlow_any s hc h (Rd.below hb _ _ hv)
  have HFD := Lib.hid hfd
  have hsl := rd_sl.1 hv
  obtain ⟨A, c, xs, rfl, _, _⟩ := hsl
  clear hv hfd
  go_enter Try.func84, Try.ntmps84
  go_wp2_with fail
  refine (HFD.out _ (((Below.refl _ _).alloc (Nat.le_refl _) _).alloc (by simp) _) (by simp) (by simp)).mono ?_
  rintro e w1 ⟨rfl, hb1⟩
  go_wp2_with fail
  go_ret
  exact ⟨rfl, (((Below.refl _ _).alloc (Nat.le_refl _) _).alloc (by simp) _).trans (hb1.mono (by simp; omega))⟩

end Go.Proofs.Yteoioboiniealaa
