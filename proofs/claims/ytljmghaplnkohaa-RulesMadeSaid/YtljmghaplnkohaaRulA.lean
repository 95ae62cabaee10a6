/- The contracts of rules.In, Out, count. -/
import Derived.Test.YtljmghaplnkohaaItem
namespace Go.Proofs.Ytljmghaplnkohaa
open Go.RowKit

/-- How many of the first ones have a property. -/
def cntN {α : Type} (p : α → Bool) (l : List α) (k : Nat) : Nat := ((l.take k).filter p).length
theorem cntN_step {α : Type} (p : α → Bool) (l : List α) (k : Nat) (h : k < l.length) : cntN p l (k + 1) = cntN p l k + if p l[k] = true then 1 else 0 := by
  unfold cntN
  rw [List.take_succ_eq_append_getElem h, List.filter_append, List.length_append, List.filter_cons]
  split <;> simp
theorem cntN_le {α : Type} (p : α → Bool) (l : List α) (k : Nat) : cntN p l k ≤ k := Nat.le_trans (List.length_filter_le _ _) (List.length_take_le _ _)
theorem cntN_all {α : Type} (p : α → Bool) (l : List α) (k : Nat) (h : l.length ≤ k) : cntN p l k = (l.filter p).length := by unfold cntN; rw [List.take_of_length_le h]


set_option maxHeartbeats 1000000 in
theorem in_any {w : World} {v : Value} {l : List SeqD} (s : ByteArray) (hv : Rd w (seqsD l) v) :
    Calls Try.prog 11 #[v, .string s] w fun e w' => e = .returned (.int .i64 (cntN (fun x : SeqD => eqS x.dst s) l l.length)) ∧ Below w.heap.size w w' := by
  obtain ⟨A, c, rfl, hlc, hcm, hat⟩ := rd_at seqC_len hv
  have hmx : l.length ≤ maxLen := by omega
  unfold maxLen at hmx
  have HAT := Lib.hid hat
  clear hat hv hcm
  obtain ⟨pf, hpf⟩ : ∃ pf : SeqD → Bool, pf = fun x => eqS x.dst s := ⟨_, rfl⟩
  rw [← hpf]
  have HP := Lib.hid hpf
  clear hpf
  go_enter Try.func11, Try.ntmps11
  go_wp2_with fail
  go_loopw [5, 10] (fun u v wr => ∃ k : Nat, k ≤ l.length ∧ u = .int .i64 (cntN pf l k) ∧ v = .int .i64 k ∧ Below w.heap.size w wr) (fun _ v _ => l.length - (intOf v).toNat)
  case atStart => exact ⟨0, Nat.zero_le _, rfl, rfl, Below.refl _ _⟩
  case round =>
    obtain ⟨k, hk, rfl, rfl, hB⟩ := hrel
    have HB := Lib.hid hB
    have hsz := hB.size
    clear hB
    have hle := cntN_le pf l k
    by_cases hlt : k < l.length
    · obtain ⟨b, vs, rfl, hbl, _, hvs, hcell⟩ := HAT.out k hlt
      have hst := cntN_step pf l k hlt
      have hpk : pf l[k] = eqS l[k].dst s := by rw [HP.out]
      generalize l[k] = x at *
      obtain rfl := rd_seqC hvs
      have x0 : wr.cell? ⟨b, k * 3, none⟩ = some (.string x.id) := (HB.out.cell (p := ⟨b, k * 3, none⟩) hbl).trans (hcell 0 (by omega))
      have x1 : wr.cell? ⟨b, k * 3 + 1, none⟩ = some (.string x.src) := (HB.out.cell (p := ⟨b, k * 3 + 1, none⟩) hbl).trans (hcell 1 (by omega))
      have x2 : wr.cell? ⟨b, k * 3 + 2, none⟩ = some (.string x.dst) := (HB.out.cell (p := ⟨b, k * 3 + 2, none⟩) hbl).trans (hcell 2 (by omega))
      unfold eqS at hpk
      cases ht : pf x
      · rw [ht] at hst hpk
        rw [if_neg Bool.false_ne_true] at hst
        have hpk2 := hpk.symm
        have Hst := Lib.hid hst
        clear hcell hvs hst hpk ht
        go_wp2_with fail
        go_roundw
        case rel => exact ⟨k + 1, by omega, by rw [Hst.out, Nat.add_zero], by go_num, HB.out.alloc hsz _⟩
        case measure => simp [intOf]; omega
      · rw [ht] at hst hpk
        rw [if_pos rfl] at hst
        have hpk2 := hpk.symm
        have Hst := Lib.hid hst
        clear hcell hvs hst hpk ht
        go_wp2_with fail
        go_roundw
        case rel => exact ⟨k + 1, by omega, by rw [Hst.out]; go_num, by go_num, HB.out.alloc hsz _⟩
        case measure => simp [intOf]; omega
    · have hfin : k = l.length := by omega
      subst hfin
      go_wp2_with fail
      go_ret
      exact ⟨rfl, HB.out⟩

set_option maxHeartbeats 1000000 in
theorem out_any {w : World} {v : Value} {l : List SeqD} (s : ByteArray) (hv : Rd w (seqsD l) v) :
    Calls Try.prog 12 #[v, .string s] w fun e w' => e = .returned (.int .i64 (cntN (fun x : SeqD => eqS x.src s) l l.length)) ∧ Below w.heap.size w w' := by
  obtain ⟨A, c, rfl, hlc, hcm, hat⟩ := rd_at seqC_len hv
  have hmx : l.length ≤ maxLen := by omega
  unfold maxLen at hmx
  have HAT := Lib.hid hat
  clear hat hv hcm
  obtain ⟨pf, hpf⟩ : ∃ pf : SeqD → Bool, pf = fun x => eqS x.src s := ⟨_, rfl⟩
  rw [← hpf]
  have HP := Lib.hid hpf
  clear hpf
  go_enter Try.func12, Try.ntmps12
  go_wp2_with fail
  go_loopw [5, 10] (fun u v wr => ∃ k : Nat, k ≤ l.length ∧ u = .int .i64 (cntN pf l k) ∧ v = .int .i64 k ∧ Below w.heap.size w wr) (fun _ v _ => l.length - (intOf v).toNat)
  case atStart => exact ⟨0, Nat.zero_le _, rfl, rfl, Below.refl _ _⟩
  case round =>
    obtain ⟨k, hk, rfl, rfl, hB⟩ := hrel
    have HB := Lib.hid hB
    have hsz := hB.size
    clear hB
    have hle := cntN_le pf l k
    by_cases hlt : k < l.length
    · obtain ⟨b, vs, rfl, hbl, _, hvs, hcell⟩ := HAT.out k hlt
      have hst := cntN_step pf l k hlt
      have hpk : pf l[k] = eqS l[k].src s := by rw [HP.out]
      generalize l[k] = x at *
      obtain rfl := rd_seqC hvs
      have x0 : wr.cell? ⟨b, k * 3, none⟩ = some (.string x.id) := (HB.out.cell (p := ⟨b, k * 3, none⟩) hbl).trans (hcell 0 (by omega))
      have x1 : wr.cell? ⟨b, k * 3 + 1, none⟩ = some (.string x.src) := (HB.out.cell (p := ⟨b, k * 3 + 1, none⟩) hbl).trans (hcell 1 (by omega))
      have x2 : wr.cell? ⟨b, k * 3 + 2, none⟩ = some (.string x.dst) := (HB.out.cell (p := ⟨b, k * 3 + 2, none⟩) hbl).trans (hcell 2 (by omega))
      unfold eqS at hpk
      cases ht : pf x
      · rw [ht] at hst hpk
        rw [if_neg Bool.false_ne_true] at hst
        have hpk2 := hpk.symm
        have Hst := Lib.hid hst
        clear hcell hvs hst hpk ht
        go_wp2_with fail
        go_roundw
        case rel => exact ⟨k + 1, by omega, by rw [Hst.out, Nat.add_zero], by go_num, HB.out.alloc hsz _⟩
        case measure => simp [intOf]; omega
      · rw [ht] at hst hpk
        rw [if_pos rfl] at hst
        have hpk2 := hpk.symm
        have Hst := Lib.hid hst
        clear hcell hvs hst hpk ht
        go_wp2_with fail
        go_roundw
        case rel => exact ⟨k + 1, by omega, by rw [Hst.out]; go_num, by go_num, HB.out.alloc hsz _⟩
        case measure => simp [intOf]; omega
    · have hfin : k = l.length := by omega
      subst hfin
      go_wp2_with fail
      go_ret
      exact ⟨rfl, HB.out⟩

end Go.Proofs.Ytljmghaplnkohaa
