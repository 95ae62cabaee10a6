/- Which participant of the whole one is: the contracts of inline.who and the law's who. -/
import Derived.Test.YteoioboiniealaaItem
import Derived.Test.YteoioboiniealaaStr
namespace Go.Proofs.Yteoioboiniealaa
open Go.RowKit

/-- Which participant one is, by maps. -/
def whoF : List MapD → ByteArray → ByteArray
  | [], s => s
  | x :: l, s => if eqS x.inner s = true then x.outer else whoF l s

set_option maxHeartbeats 1000000 in
theorem who_any {w : World} {v : Value} {l : List MapD} (s : ByteArray) (hv : Rd w (mapsD l) v) :
    Calls Try.prog 73 #[v, .string s] w fun e w' => e = .returned (.string (whoF l s)) ∧ Below w.heap.size w w' := by
  obtain ⟨A, c, rfl, hlc, hcm, hat⟩ := rd_at mapC_len hv
  have hmx : l.length ≤ maxLen := by omega
  unfold maxLen at hmx
  have HAT := Lib.hid hat
  clear hat hv hcm
  go_enter Try.func73, Try.ntmps73
  go_wp2_with fail
  go_loopw [9] (fun v wr => ∃ k : Nat, k ≤ l.length ∧ v = .int .i64 k ∧ Hid (whoF l s = whoF (l.drop k) s) ∧ Below w.heap.size w wr) (fun v _ => l.length - (intOf v).toNat)
  case atStart => exact ⟨0, Nat.zero_le _, rfl, rfl, Below.refl _ _⟩
  case round =>
    obtain ⟨k, hk, rfl, hinv, hB⟩ := hrel
    have HB := Lib.hid hB
    have hsz := hB.size
    clear hB
    by_cases hlt : k < l.length
    · obtain ⟨b, vs, rfl, hbl, _, hvs, hcell⟩ := HAT.out k hlt
      have hd : l.drop k = l[k] :: l.drop (k + 1) := List.drop_eq_getElem_cons hlt
      have hi := hinv.out
      rw [hd, whoF] at hi
      have hpk : eqS l[k].inner s = (l[k].inner.toList == s.toList) := rfl
      rw [hpk] at hi
      generalize l[k] = x at *
      obtain rfl := rd_mapC hvs
      have x0 : wr.cell? ⟨b, k * 2, none⟩ = some (.string x.inner) := (HB.out.cell (p := ⟨b, k * 2, none⟩) hbl).trans (hcell 0 (by omega))
      have x1 : wr.cell? ⟨b, k * 2 + 1, none⟩ = some (.string x.outer) := (HB.out.cell (p := ⟨b, k * 2 + 1, none⟩) hbl).trans (hcell 1 (by omega))
      clear hcell hd hinv hpk hvs
      rcases ht : (x.inner.toList == s.toList) with _ | _
      · rw [ht, if_neg Bool.false_ne_true] at hi
        have Hi := Lib.hid hi
        clear hi
        go_wp2_with fail
        go_roundw
        case rel => exact ⟨k + 1, by omega, by go_num, Hi, HB.out.alloc hsz _⟩
        case measure => simp [intOf]; omega
      · rw [ht, if_pos (rfl : true = true)] at hi
        have Hi := Lib.hid hi
        clear hi
        go_wp2_with fail
        go_ret
        exact ⟨by rw [Hi.out]; rfl, HB.out.alloc hsz _⟩
    · have hi := hinv.out
      rw [List.drop_eq_nil_of_le (by omega), whoF] at hi
      have Hi := Lib.hid hi
      clear hi
      go_wp2_with fail
      go_ret
      exact ⟨by rw [Hi.out]; rfl, HB.out⟩

set_option maxHeartbeats 1000000 in
theorem lwho_any {w : World} {v : Value} {l : List MapD} (s : ByteArray) (hv : Rd w (mapsD l) v) :
    Calls Try.prog 18 #[v, .string s] w fun e w' => e = .returned (.string (whoF l s)) ∧ Below w.heap.size w w' := by
  obtain ⟨A, c, rfl, hlc, hcm, hat⟩ := rd_at mapC_len hv
  have hmx : l.length ≤ maxLen := by omega
  unfold maxLen at hmx
  have HAT := Lib.hid hat
  clear hat hv hcm
  go_enter Try.func18, Try.ntmps18
  go_wp2_with fail
  go_loop [5] (fun v => ∃ k : Nat, k ≤ l.length ∧ v = .int .i64 k ∧ Hid (whoF l s = whoF (l.drop k) s)) (fun v => l.length - (intOf v).toNat)
  case atStart => exact ⟨0, Nat.zero_le _, rfl, rfl⟩
  case round =>
    obtain ⟨k, hk, rfl, hinv⟩ := hrel
    by_cases hlt : k < l.length
    · obtain ⟨b, vs, rfl, hbl, _, hvs, hcell⟩ := HAT.out k hlt
      have hd : l.drop k = l[k] :: l.drop (k + 1) := List.drop_eq_getElem_cons hlt
      have hi := hinv.out
      rw [hd, whoF] at hi
      have hpk : eqS l[k].inner s = (l[k].inner.toList == s.toList) := rfl
      rw [hpk] at hi
      generalize l[k] = x at *
      obtain rfl := rd_mapC hvs
      have x0 : w.cell? ⟨b, k * 2, none⟩ = some (.string x.inner) := hcell 0 (by omega)
      have x1 : w.cell? ⟨b, k * 2 + 1, none⟩ = some (.string x.outer) := hcell 1 (by omega)
      clear hcell hd hinv hpk hvs
      rcases ht : (x.inner.toList == s.toList) with _ | _
      · rw [ht, if_neg Bool.false_ne_true] at hi
        have Hi := Lib.hid hi
        clear hi
        go_wp2_with fail
        go_round
        case rel => exact ⟨k + 1, by omega, by go_num, Hi⟩
        case measure => simp [intOf]; omega
      · rw [ht, if_pos (rfl : true = true)] at hi
        have Hi := Lib.hid hi
        clear hi
        go_wp2_with fail
        go_ret
        exact ⟨by rw [Hi.out]; rfl, Below.refl _ _⟩
    · have hi := hinv.out
      rw [List.drop_eq_nil_of_le (by omega), whoF] at hi
      have Hi := Lib.hid hi
      clear hi
      go_wp2_with fail
      go_ret
      exact ⟨by rw [Hi.out]; rfl, Below.refl _ _⟩
end Go.Proofs.Yteoioboiniealaa
