/- The contracts of chars.Split. -/
import Derived.Test.YtgdkmipkgjkjjaaCharsB
import Derived.BigQuiet
import Derived.WalkSpells
namespace Go.Proofs.Ytgdkmipkgjkjjaa
open Go.RowKit

theorem quiet_left {P : Program} {f : FuncId} {args : Array Value} {w : World} {n : Nat} {v : Value}
    (h : Calls P f args (w.drewN n) fun e w' => e = .returned v ∧ w.drewN n = w') : Calls P f args (w.drewN n) fun e w'' => e = .returned v ∧ ∃ m, w'' = w.drewN m :=
  h.mono fun _ _ ⟨he, hm⟩ => ⟨he, n, hm.symm⟩
theorem ret_str3 {a b c d : ByteArray} {x y : Bool} (h : a = b) (h' : c = d) (h'' : x = y) : Ending.returned (.tuple #[.string a, .string c, .bool x]) = .returned (.tuple #[.string b, .string d, .bool y]) := by rw [h, h', h'']

/-- No colon: no prefix, and the whole text. -/
theorem split_none (s : ByteArray) (w : World) (hs : s.size ≤ maxLen) (hno : ∀ j, j < s.size → Bl s.data.toList j ≠ 58) :
    Calls Try.prog 22 #[.string s] w fun e w' => e = .returned (.tuple #[.string ByteArray.empty, .string s, .bool (nameB s.data.toList)]) ∧ w = w' := by
  have hnm := name_any s
  obtain ⟨nb, hnb⟩ : ∃ nb, nb = nameB s.data.toList := ⟨_, rfl⟩
  rw [← hnb] at hnm ⊢
  have Hnm := Lib.hid hnm
  have Hs := Lib.hid hs
  have Hno := Lib.hid hno
  unfold maxLen at hs
  clear hnm hnb hno
  go_enter Try.func22, Try.ntmps22
  go_wp2_with fail
  go_loop [8] (fun v => ∃ k : Nat, k ≤ s.size ∧ v = .int .i64 k) (fun v => s.size - (intOf v).toNat)
  case atStart => exact ⟨0, by omega, rfl⟩
  case round =>
    obtain ⟨k, hk, rfl⟩ := hrel
    by_cases hlt : k < s.size
    · obtain ⟨c, HC, hx, lo, hi, hs0⟩ := byte_of s k hlt
      have hc : (c == 58) = false := by
        have := Hno.out k hlt
        rw [← HC.out] at this
        simpa using this
      go_wp2_with fail
      go_round
      case rel => exact ⟨k + 1, by omega, by go_num⟩
      case measure => simp [intOf]; omega
    · go_wp2_with fail
      refine (Hnm.out _ Hs.out).mono ?_
      rintro e w' ⟨rfl, rfl⟩
      go_wp2_with fail
      go_ret3
      exact ⟨rfl, rfl⟩

/-- A colon, the first one. -/
theorem split_at (s : ByteArray) (i : Nat) (w : World) (hs : s.size ≤ maxLen) (hi : i < s.size) (hci : Bl s.data.toList i = 58) (hno : ∀ j, j < i → Bl s.data.toList j ≠ 58) :
    Calls Try.prog 22 #[.string s] w fun e w' => e = .returned (.tuple #[.string (s.extract 0 i), .string (s.extract (i + 1) s.size), .bool (nameB (s.extract 0 i).data.toList && nameB (s.extract (i + 1) s.size).data.toList)]) ∧ ∃ n, w' = w.drewN n := by
  obtain ⟨nb, hnb⟩ : ∃ nb : ByteArray → Bool, ∀ t, nb t = nameB t.data.toList := ⟨_, fun _ => rfl⟩
  have hm : ∀ t w, t.size ≤ s.size → Calls Try.prog 24 #[.string t] w fun e w' => e = .returned (.bool (nb t)) ∧ w = w' := fun t w ht => by
    rw [hnb]; exact name_any t w (by omega)
  rw [← hnb, ← hnb]
  unfold maxLen at hs
  have Hno := Lib.hid hno
  have Hci := Lib.hid hci
  have Hm := Lib.hid hm
  clear hno hci hm hnb
  go_enter Try.func22, Try.ntmps22
  go_wp2_with fail
  go_loop [8] (fun v => ∃ k : Nat, k ≤ i ∧ v = .int .i64 k) (fun v => s.size - (intOf v).toNat)
  case atStart => exact ⟨0, by omega, rfl⟩
  case round =>
    obtain ⟨k, hk, rfl⟩ := hrel
    have hlt : k < s.size := by omega
    obtain ⟨c, HC, hx, lo, hhi, hs0⟩ := byte_of s k hlt
    by_cases hki : k < i
    · have hc : (c == 58) = false := by
        have := Hno.out k hki
        rw [← HC.out] at this
        simpa using this
      go_wp2_with fail
      go_round
      case rel => exact ⟨k + 1, by omega, by go_num⟩
      case measure => simp [intOf]; omega
    · obtain rfl : k = i := by omega
      obtain rfl : c = 58 := by rw [HC.out]; exact Hci.out
      have hk1 : k ≤ s.size := by omega
      have hk2 : k + 1 ≤ s.size := by omega
      have hm1 : ∀ w, Calls Try.prog 24 #[.string (s.extract 0 k)] w fun e w' => e = .returned (.bool (nb (s.extract 0 k))) ∧ w = w' := fun w => Hm.out _ w (by simp only [ByteArray.size_extract]; omega)
      have hm2 : ∀ w, Calls Try.prog 24 #[.string (s.extract (k + 1) s.size)] w fun e w' => e = .returned (.bool (nb (s.extract (k + 1) s.size))) ∧ w = w' := fun w => Hm.out _ w (by simp only [ByteArray.size_extract]; omega)
      obtain ⟨n2, hn2⟩ : ∃ x, x = nb (s.extract (k + 1) s.size) := ⟨_, rfl⟩
      rw [← hn2] at hm2
      have Hn2 := Lib.hid hn2
      have Hm2 := Lib.hid hm2
      clear hm2 hn2
      cases hb1 : nb (s.extract 0 k)
      · rw [hb1] at hm1
        have Hm1 := Lib.hid hm1
        have Hb1 := Lib.hid hb1
        clear hm1 hb1
        go_wp2_with fail
        go_quiet ((go_at_call 24; (with_reducible exact quiet_left (Hm1.out _))))
        go_wp2_with fail
        go_ret3
        exact ⟨ret_str3 rfl rfl (by rw [Hb1.out]; rfl), _, rfl⟩
      · rw [hb1] at hm1
        have Hm1 := Lib.hid hm1
        have Hb1 := Lib.hid hb1
        clear hm1 hb1
        go_wp2_with fail
        go_quiet ((first | (go_at_call 24; (with_reducible exact quiet_left (Hm1.out _))) | (go_at_call 24; (with_reducible exact quiet_left (Hm2.out _)))))
        go_wp2_with fail
        go_ret3
        exact ⟨ret_str3 rfl rfl (by rw [Hb1.out, Hn2.out]; rfl), _, rfl⟩
end Go.Proofs.Ytgdkmipkgjkjjaa
