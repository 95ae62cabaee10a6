/- slices.Index and slices.Contains of texts. -/
import Derived.Test.YtljmghaplnkohaaItem
import Derived.Test.YtljmghaplnkohaaFind0
namespace Go.Proofs.Ytljmghaplnkohaa
open Go.RowKit

theorem eqS_comm (a b : ByteArray) : eqS a b = eqS b a := by
  unfold eqS
  rw [Bool.eq_iff_iff]
  simp only [beq_iff_eq]
  exact ⟨Eq.symm, Eq.symm⟩
theorem findFrom_ge {α : Type} (p : α → Bool) : ∀ (l : List α) (k : Nat), decide (findFrom p l k ≥ 0) = l.any p
  | [], k => rfl
  | x :: l, k => by
    unfold findFrom
    cases hx : p x
    · rw [if_neg (by simp)]
      rw [findFrom_ge p l (k + 1)]
      simp [hx]
    · rw [if_pos rfl]
      simp [hx]

set_option maxHeartbeats 1000000 in
theorem index_any {w : World} {v : Value} {l : List ByteArray} (s : ByteArray) (hv : Rd w (strsD l) v) :
    Calls Try.prog 59 #[v, .string s] w fun e w' => e = .returned (.int .i64 (findFrom (eqS s) l 0)) ∧ w = w' := by
  obtain ⟨A, c, rfl, hlc, hcm, hat⟩ := rd_at strC_len hv
  have hmx : l.length ≤ maxLen := by omega
  unfold maxLen at hmx
  have HAT := Lib.hid hat
  clear hat hv hcm
  obtain ⟨pf, hpf⟩ : ∃ pf : ByteArray → Bool, pf = eqS s := ⟨_, rfl⟩
  rw [← hpf]
  have HP := Lib.hid hpf
  clear hpf
  go_enter Try.func59, Try.ntmps59
  go_wp2_with fail
  go_loop [8] (fun v => ∃ k : Nat, k ≤ l.length ∧ v = .int .i64 k ∧ Hid (findFrom pf l 0 = findFrom pf (l.drop k) k)) (fun v => l.length - (intOf v).toNat)
  case atStart => exact ⟨0, Nat.zero_le _, rfl, rfl⟩
  case round =>
    obtain ⟨k, hk, rfl, hinv⟩ := hrel
    by_cases hlt : k < l.length
    · obtain ⟨b, vs, rfl, hbl, _, hvs, hcell⟩ := HAT.out k hlt
      have hd : l.drop k = l[k] :: l.drop (k + 1) := List.drop_eq_getElem_cons hlt
      have hi := hinv.out
      rw [hd, findFrom] at hi
      have hpk : pf l[k] = (s.toList == l[k].toList) := by rw [HP.out]; rfl
      rw [hpk] at hi
      generalize l[k] = x at *
      obtain rfl := rd_strC hvs
      have x0 : w.cell? ⟨b, k, none⟩ = some (.string x) := by have := hcell 0 (by omega); simpa using this
      clear hcell hd hinv hpk hvs
      rcases ht : (s.toList == x.toList) with _ | _
      · rw [ht, if_neg Bool.false_ne_true] at hi
        have Hi := Lib.hid hi
        clear hi
        go_wp2_with fail
        go_round
        case rel => exact ⟨k + 1, by omega, by go_num, Hi⟩
        case measure => simp [intOf]; omega
      · rw [ht, if_pos (rfl : true = true)] at hi
        have Hi := Lib.hid hi
        clear hi
        go_wp2_with fail
        go_ret
        exact ⟨by rw [Hi.out]; rfl, rfl⟩
    · have hi := hinv.out
      rw [List.drop_eq_nil_of_le (by omega), findFrom] at hi
      have Hi := Lib.hid hi
      clear hi
      go_wp2_with fail
      go_ret
      exact ⟨by rw [Hi.out]; rfl, rfl⟩
theorem contains_any {w : World} {v : Value} {l : List ByteArray} (s : ByteArray) (hv : Rd w (strsD l) v) :
    Calls Try.prog 37 #[v, .string s] w fun e w' => e = .returned (.bool (l.any (eqS · s))) ∧ w = w' := by
  have H := Lib.hid hv
  have hfin : decide (findFrom (eqS s) l 0 ≥ 0) = l.any (eqS · s) := by
    rw [findFrom_ge]
    congr 1
    funext x
    exact eqS_comm s x
  have Hfin := Lib.hid hfin
  obtain ⟨r, hr⟩ : ∃ r, r = l.any (eqS · s) := ⟨_, rfl⟩
  rw [← hr] at hfin ⊢
  clear hv hr Hfin
  have Hf := Lib.hid hfin
  clear hfin
  go_enter Try.func37, Try.ntmps37
  go_wp2_with fail
  refine (index_any s H.out).mono ?_
  rintro e w' ⟨rfl, rfl⟩
  generalize findFrom (eqS s) l 0 = q at *
  go_wp2_with fail
  go_ret
  exact ⟨ret_bool (by have := Hf.out; simpa using this), rfl⟩
end Go.Proofs.Ytljmghaplnkohaa
