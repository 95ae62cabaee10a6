/- The places of ids: the contracts of ids.Part, Msg. -/
import Derived.Test.YtljmghaplnkohaaItem
import Derived.Test.YtljmghaplnkohaaFind0
namespace Go.Proofs.Ytljmghaplnkohaa
open Go.RowKit

theorem part1_any (x : PartD) (s : ByteArray) {w : World} {a : Nat}  (ha : w.cell? ⟨a, 0, none⟩ = some (.string s)) (hal : a < w.heap.size) :
    Calls Try.prog 42 #[.agg #[.string x.id, .string x.name], .pointer (some ⟨a, 0, none⟩)] w fun e w' => e = .returned (.bool (eqS x.id s)) ∧ Below w.heap.size w w' := by
  go_enter Try.func42, Try.ntmps42
  go_wp2_with fail
  go_ret
  exact ⟨rfl, (Below.refl _ _).alloc (Nat.le_refl _) _⟩

set_option maxHeartbeats 1000000 in
theorem findPart_any {w : World} {v : Value} {l : List PartD} (s : ByteArray) {a : Nat} (ha : w.cell? ⟨a, 0, none⟩ = some (.string s)) (hal : a < w.heap.size) (hv : Rd w (partsD l) v) :
    Calls Try.prog 41 #[v, .func (.func 42) #[] #[.pointer (some ⟨a, 0, none⟩)]] w fun e w' => e = .returned (.int .i64 (findFrom (fun x : PartD => eqS x.id s) l 0)) ∧ Below w.heap.size w w' := by
  obtain ⟨A, c, rfl, hlc, hcm, hat⟩ := rd_at partC_len hv
  have hmx : l.length ≤ maxLen := by omega
  unfold maxLen at hmx
  have HAT := Lib.hid hat
  have HA := Lib.hid ha
  clear hat ha hv hcm
  obtain ⟨pf, hpf⟩ : ∃ pf : PartD → Bool, pf = fun x => eqS x.id s := ⟨_, rfl⟩
  rw [← hpf]
  have HP := Lib.hid hpf
  clear hpf
  go_enter Try.func41, Try.ntmps41
  go_wp2_with fail
  go_loopw [8] (fun v wr => ∃ k : Nat, k ≤ l.length ∧ v = .int .i64 k ∧ Hid (findFrom pf l 0 = findFrom pf (l.drop k) k) ∧ Below w.heap.size w wr) (fun v _ => l.length - (intOf v).toNat)
  case atStart => exact ⟨0, Nat.zero_le _, rfl, rfl, Below.refl _ _⟩
  case round =>
    obtain ⟨k, hk, rfl, hinv, hB⟩ := hrel
    have HB := Lib.hid hB
    have hsz := hB.size
    clear hB
    by_cases hlt : k < l.length
    · obtain ⟨b, vs, rfl, hbl, _, hvs, hcell⟩ := HAT.out k hlt
      have hd : l.drop k = l[k] :: l.drop (k + 1) := List.drop_eq_getElem_cons hlt
      have hi := hinv.out
      rw [hd, findFrom] at hi
      have hpk : pf l[k] = eqS l[k].id s := by rw [HP.out]
      generalize l[k] = x at *
      obtain rfl := rd_partC hvs
      have x0 : wr.cell? ⟨b, k * 2, none⟩ = some (.string x.id) := (HB.out.cell (p := ⟨b, k * 2, none⟩) hbl).trans (hcell 0 (by omega))
      have x1 : wr.cell? ⟨b, k * 2 + 1, none⟩ = some (.string x.name) := (HB.out.cell (p := ⟨b, k * 2 + 1, none⟩) hbl).trans (hcell 1 (by omega))
      have hsp := fun W (hc : W.cell? ⟨a, 0, none⟩ = some (.string s)) (h : a < W.heap.size) => part1_any x s  (w := W) (a := a) hc h
      have hca := (HB.out.cell (p := ⟨a, 0, none⟩) hal).trans HA.out
      rw [← hpk] at hsp
      have hal2 : a < wr.heap.size := by omega
      have HSP := Lib.hid hsp
      have HCA := Lib.hid hca
      clear hcell hd hinv hpk hsp hca hvs
      cases ht : pf x
      · rw [ht] at HSP
        rw [ht, if_neg Bool.false_ne_true] at hi
        have Hi := Lib.hid hi
        clear hi ht
        go_wp2_with fail
        refine (HSP.out _ HCA.out hal2).mono ?_
        rintro e w1 ⟨rfl, hb1⟩
        go_wp2_with fail
        go_roundw
        case rel => exact ⟨k + 1, by omega, by go_num, Hi, HB.out.trans (hb1.mono hsz)⟩
        case measure => simp [intOf]; omega
      · rw [ht] at HSP
        rw [ht, if_pos (rfl : true = true)] at hi
        have Hi := Lib.hid hi
        clear hi ht
        go_wp2_with fail
        refine (HSP.out _ HCA.out hal2).mono ?_
        rintro e w1 ⟨rfl, hb1⟩
        go_wp2_with fail
        go_ret
        exact ⟨by rw [Hi.out]; rfl, HB.out.trans (hb1.mono hsz)⟩
    · have hi := hinv.out
      rw [List.drop_eq_nil_of_le (by omega), findFrom] at hi
      have Hi := Lib.hid hi
      clear hi
      go_wp2_with fail
      go_ret
      exact ⟨by rw [Hi.out]; rfl, HB.out⟩

/-- ids.Part. -/
theorem idsPart_any {w : World} {vId v vF vI vS : Value} {l : List PartD} (s : ByteArray) (hv : Rd w (partsD l) v) :
    Calls Try.prog 23 #[.agg #[vId, v, vF, vI, vS], .string s] w fun e w' => e = .returned (.int .i64 (findFrom (fun x : PartD => eqS x.id s) l 0)) ∧ Below w.heap.size w w' := by
  have hfd := fun (W1 : World) (hb : Below w.heap.size w W1) (hc : W1.cell? ⟨w.heap.size + 1, 0, none⟩ = some (.string s)) (h : w.heap.size + 1 < W1.heap.size) => findPart_any s hc h (Rd.below hb _ _ hv)
  have HFD := Lib.hid hfd
  have hsl := rd_sl.1 hv
  obtain ⟨A, c, xs, rfl, _, _⟩ := hsl
  clear hv hfd
  go_enter Try.func23, Try.ntmps23
  go_wp2_with fail
  refine (HFD.out _ (((Below.refl _ _).alloc (Nat.le_refl _) _).alloc (by simp) _) (by simp) (by simp)).mono ?_
  rintro e w1 ⟨rfl, hb1⟩
  go_wp2_with fail
  go_ret
  exact ⟨rfl, (((Below.refl _ _).alloc (Nat.le_refl _) _).alloc (by simp) _).trans (hb1.mono (by simp; omega))⟩

theorem msg1_any (x : PartD) (s : ByteArray) {w : World} {a : Nat}  (ha : w.cell? ⟨a, 0, none⟩ = some (.string s)) (hal : a < w.heap.size) :
    Calls Try.prog 48 #[.agg #[.string x.id, .string x.name], .pointer (some ⟨a, 0, none⟩)] w fun e w' => e = .returned (.bool (eqS x.id s)) ∧ Below w.heap.size w w' := by
  go_enter Try.func48, Try.ntmps48
  go_wp2_with fail
  go_ret
  exact ⟨rfl, (Below.refl _ _).alloc (Nat.le_refl _) _⟩

set_option maxHeartbeats 1000000 in
theorem findMsg_any {w : World} {v : Value} {l : List PartD} (s : ByteArray) {a : Nat} (ha : w.cell? ⟨a, 0, none⟩ = some (.string s)) (hal : a < w.heap.size) (hv : Rd w (msgsD l) v) :
    Calls Try.prog 47 #[v, .func (.func 48) #[] #[.pointer (some ⟨a, 0, none⟩)]] w fun e w' => e = .returned (.int .i64 (findFrom (fun x : PartD => eqS x.id s) l 0)) ∧ Below w.heap.size w w' := by
  obtain ⟨A, c, rfl, hlc, hcm, hat⟩ := rd_at partC_len hv
  have hmx : l.length ≤ maxLen := by omega
  unfold maxLen at hmx
  have HAT := Lib.hid hat
  have HA := Lib.hid ha
  clear hat ha hv hcm
  obtain ⟨pf, hpf⟩ : ∃ pf : PartD → Bool, pf = fun x => eqS x.id s := ⟨_, rfl⟩
  rw [← hpf]
  have HP := Lib.hid hpf
  clear hpf
  go_enter Try.func47, Try.ntmps47
  go_wp2_with fail
  go_loopw [8] (fun v wr => ∃ k : Nat, k ≤ l.length ∧ v = .int .i64 k ∧ Hid (findFrom pf l 0 = findFrom pf (l.drop k) k) ∧ Below w.heap.size w wr) (fun v _ => l.length - (intOf v).toNat)
  case atStart => exact ⟨0, Nat.zero_le _, rfl, rfl, Below.refl _ _⟩
  case round =>
    obtain ⟨k, hk, rfl, hinv, hB⟩ := hrel
    have HB := Lib.hid hB
    have hsz := hB.size
    clear hB
    by_cases hlt : k < l.length
    · obtain ⟨b, vs, rfl, hbl, _, hvs, hcell⟩ := HAT.out k hlt
      have hd : l.drop k = l[k] :: l.drop (k + 1) := List.drop_eq_getElem_cons hlt
      have hi := hinv.out
      rw [hd, findFrom] at hi
      have hpk : pf l[k] = eqS l[k].id s := by rw [HP.out]
      generalize l[k] = x at *
      obtain rfl := rd_partC hvs
      have x0 : wr.cell? ⟨b, k * 2, none⟩ = some (.string x.id) := (HB.out.cell (p := ⟨b, k * 2, none⟩) hbl).trans (hcell 0 (by omega))
      have x1 : wr.cell? ⟨b, k * 2 + 1, none⟩ = some (.string x.name) := (HB.out.cell (p := ⟨b, k * 2 + 1, none⟩) hbl).trans (hcell 1 (by omega))
      have hsp := fun W (hc : W.cell? ⟨a, 0, none⟩ = some (.string s)) (h : a < W.heap.size) => msg1_any x s  (w := W) (a := a) hc h
      have hca := (HB.out.cell (p := ⟨a, 0, none⟩) hal).trans HA.out
      rw [← hpk] at hsp
      have hal2 : a < wr.heap.size := by omega
      have HSP := Lib.hid hsp
      have HCA := Lib.hid hca
      clear hcell hd hinv hpk hsp hca hvs
      cases ht : pf x
      · rw [ht] at HSP
        rw [ht, if_neg Bool.false_ne_true] at hi
        have Hi := Lib.hid hi
        clear hi ht
        go_wp2_with fail
        refine (HSP.out _ HCA.out hal2).mono ?_
        rintro e w1 ⟨rfl, hb1⟩
        go_wp2_with fail
        go_roundw
        case rel => exact ⟨k + 1, by omega, by go_num, Hi, HB.out.trans (hb1.mono hsz)⟩
        case measure => simp [intOf]; omega
      · rw [ht] at HSP
        rw [ht, if_pos (rfl : true = true)] at hi
        have Hi := Lib.hid hi
        clear hi ht
        go_wp2_with fail
        refine (HSP.out _ HCA.out hal2).mono ?_
        rintro e w1 ⟨rfl, hb1⟩
        go_wp2_with fail
        go_ret
        exact ⟨by rw [Hi.out]; rfl, HB.out.trans (hb1.mono hsz)⟩
    · have hi := hinv.out
      rw [List.drop_eq_nil_of_le (by omega), findFrom] at hi
      have Hi := Lib.hid hi
      clear hi
      go_wp2_with fail
      go_ret
      exact ⟨by rw [Hi.out]; rfl, HB.out⟩

/-- ids.Msg. -/
theorem idsMsg_any {w : World} {v vC : Value} {l : List PartD} (s : ByteArray) (hv : Rd w (msgsD l) v) :
    Calls Try.prog 26 #[.agg #[v, vC], .string s] w fun e w' => e = .returned (.int .i64 (findFrom (fun x : PartD => eqS x.id s) l 0)) ∧ Below w.heap.size w w' := by
  have hfd := fun (W1 : World) (hb : Below w.heap.size w W1) (hc : W1.cell? ⟨w.heap.size + 1, 0, none⟩ = some (.string s)) (h : w.heap.size + 1 < W1.heap.size) => findMsg_any s hc h (Rd.below hb _ _ hv)
  have HFD := Lib.hid hfd
  have hsl := rd_sl.1 hv
  obtain ⟨A, c, xs, rfl, _, _⟩ := hsl
  clear hv hfd
  go_enter Try.func26, Try.ntmps26
  go_wp2_with fail
  refine (HFD.out _ (((Below.refl _ _).alloc (Nat.le_refl _) _).alloc (by simp) _) (by simp) (by simp)).mono ?_
  rintro e w1 ⟨rfl, hb1⟩
  go_wp2_with fail
  go_ret
  exact ⟨rfl, (((Below.refl _ _).alloc (Nat.le_refl _) _).alloc (by simp) _).trans (hb1.mono (by simp; omega))⟩

end Go.Proofs.Ytljmghaplnkohaa
