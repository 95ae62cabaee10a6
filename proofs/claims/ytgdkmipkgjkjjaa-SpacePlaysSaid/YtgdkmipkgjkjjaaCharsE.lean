/- The contracts of chars.Empty, galliardref01.Trim, chars.Text and galliardref01.Text. -/
import Derived.Test.YtgdkmipkgjkjjaaCharsD
import Derived.Test.YtgdkmipkgjkjjaaCharsC
import Derived.WalkSpells
namespace Go.Proofs.Ytgdkmipkgjkjjaa
open Go.RowKit

theorem empty_any (s : ByteArray) (w : World) (hs : s.size ≤ maxLen) :
    Calls Try.prog 28 #[.string s] w fun e w' => e = .returned (.bool (baL (trimL s.data.toList)).toList.isEmpty) ∧ w = w' := by
  have hc := trim_any s
  obtain ⟨t, ht⟩ : ∃ t, t = baL (trimL s.data.toList) := ⟨_, rfl⟩
  rw [← ht] at hc ⊢
  have Hc := Lib.hid hc
  have Hs := Lib.hid hs
  clear hc ht hs
  go_enter Try.func28, Try.ntmps28
  go_wp2_with fail
  refine (Hc.out _ Hs.out).mono ?_
  rintro e w' ⟨rfl, rfl⟩
  go_wp2_with fail
  go_ret
  exact ⟨rfl, rfl⟩

theorem drop_step {l : List UInt8} {k : Nat} (h : k < l.length) (hb : bl (l[k]'h) = true) : (l.drop k).dropWhile bl = (l.drop (k + 1)).dropWhile bl := by
  have h0 : 0 < (l.drop k).length := by simp; omega
  rw [dropWhile_hit h0 (by simpa using hb), List.drop_drop]
theorem drop_stop {l : List UInt8} {k : Nat} (h : k < l.length) (hb : bl (l[k]'h) = false) : (l.drop k).dropWhile bl = l.drop k := by
  have h0 : 0 < (l.drop k).length := by simp; omega
  exact dropWhile_miss h0 (by simpa using hb)
/-- The bytes from a place to another. -/
def win (l : List UInt8) (k m : Nat) : List UInt8 := (l.drop k).take (m - k)
theorem win_last {l : List UInt8} {k m : Nat} (h : k ≤ m) (hm : m < l.length) (hp : (win l k (m + 1)).length - 1 < (win l k (m + 1)).length) : (win l k (m + 1))[(win l k (m + 1)).length - 1]'hp = l[m]'hm := by
  have hl : (win l k (m + 1)).length = m + 1 - k := by unfold win; simp; omega
  apply Option.some.inj
  rw [← List.getElem?_eq_getElem, ← List.getElem?_eq_getElem, hl]
  unfold win
  rw [List.getElem?_take_of_lt (by omega), List.getElem?_drop]
  congr 1
  omega
theorem win_step {l : List UInt8} {k m : Nat} (h : k ≤ m) (hm : m < l.length) (hb : bl (l[m]'hm) = true) : rtrim (win l k (m + 1)) = rtrim (win l k m) := by
  have hl : (win l k (m + 1)).length = m + 1 - k := by unfold win; simp; omega
  rw [rtrim_hit (by omega) (by rw [win_last h hm]; exact hb), hl]
  congr 1
  unfold win
  rw [List.take_take]
  congr 1
  omega
theorem win_stop {l : List UInt8} {k m : Nat} (h : k ≤ m) (hm : m < l.length) (hb : bl (l[m]'hm) = false) : rtrim (win l k (m + 1)) = win l k (m + 1) := by
  have hl : (win l k (m + 1)).length = m + 1 - k := by unfold win; simp; omega
  exact rtrim_miss (by omega) (by rw [win_last h hm]; exact hb)
theorem blank_no {c : Int} (h : blankB c = false) : (c == 32) = false ∧ (c == 9) = false ∧ (c == 10) = false ∧ (c == 13) = false := by
  have : ¬ (c = 32 ∨ c = 9 ∨ c = 10 ∨ c = 13) := fun hc => by rw [blankB_iff.2 hc] at h; cases h
  simp
  omega

set_option maxHeartbeats 2000000 in
theorem rtrim_any (s : ByteArray) (w : World) (hs : s.size ≤ maxLen) :
    Calls Try.prog 27 #[.string s] w fun e w' => e = .returned (.string (baL (trimL s.data.toList))) ∧ w = w' := by
  unfold maxLen at hs
  go_enter Try.func27, Try.ntmps27
  go_wp2_with fail
  go_loop [3] (fun v => ∃ k : Nat, k ≤ s.size ∧ v = .int .i64 k ∧ Hid (s.data.toList.dropWhile bl = (s.data.toList.drop k).dropWhile bl)) (fun v => s.size - (intOf v).toNat)
  case atStart => exact ⟨0, by omega, rfl, rfl⟩
  case round =>
    obtain ⟨k, hk, rfl, hinv⟩ := hrel
    by_cases hlt : k < s.size
    · obtain ⟨c, HC, hx, lo, hi, hs0⟩ := byte_of s k hlt
      have hl : k < s.data.toList.length := by simpa using hlt
      have hbl : bl (s.data.toList[k]'hl) = blankB c := bl_of hl HC.out
      cases hb : blankB c
      · rw [hb] at hbl
        have hT : s.data.toList.dropWhile bl = s.data.toList.drop k := by rw [hinv.out, drop_stop hl hbl]
        have HT := Lib.hid hT
        obtain ⟨n1, n2, n3, n4⟩ := blank_no hb
        clear hT hb hbl hinv hl
        go_wp2_with fail
        go_loop [4] (fun v => ∃ m : Nat, k ≤ m ∧ m ≤ s.size ∧ v = .int .i64 m ∧ Hid (rtrim (s.data.toList.drop k) = rtrim (win s.data.toList k m))) (fun v => (intOf v).toNat)
        case atStart => exact ⟨s.size, by omega, by omega, rfl, by show _ = _; unfold win; rw [List.take_of_length_le (by simp)]⟩
        case round =>
          obtain ⟨m, hkm, hms, rfl, hinv⟩ := hrel
          by_cases hgt : k < m
          · obtain ⟨n, rfl⟩ : ∃ n, m = n + 1 := ⟨m - 1, by omega⟩
            have hnlt : n < s.size := by omega
            have hnk : k ≤ n := by omega
            obtain ⟨d, HD, hy, dlo, dhi, hds⟩ := byte_of s n hnlt
            have hl2 : n < s.data.toList.length := by simpa using hnlt
            have hbl2 : bl (s.data.toList[n]'hl2) = blankB d := bl_of hl2 HD.out
            have hn1 : ((n + 1 : Nat) : Int) - 1 = n := by omega
            cases hb2 : blankB d
            · rw [hb2] at hbl2
              have hfin : s.extract k (n + 1) = baL (trimL s.data.toList) := eq_baL (by
                rw [Lib.extract_data]
                unfold trimL
                rw [HT.out, hinv.out, win_stop hnk hl2 hbl2]
                rfl)
              have Hfin := Lib.hid hfin
              obtain ⟨m1, m2, m3, m4⟩ := blank_no hb2
              clear hfin hb2 hbl2 hinv hl2
              go_wp2_with fail
              go_ret
              exact ⟨ret_str' Hfin.out, rfl⟩
            · rw [hb2] at hbl2
              have hinv' : Hid (rtrim (s.data.toList.drop k) = rtrim (win s.data.toList k n)) := by
                show _ = _
                rw [hinv.out, win_step hnk hl2 hbl2]
              rcases blankB_iff.1 hb2 with h | h | h | h
              all_goals
                subst h
                clear hb2 hbl2 hinv hl2
                go_wp2_with fail
                go_round
                case rel => exact ⟨n, by omega, by omega, by go_num, hinv'⟩
                case measure => simp [intOf] <;> omega
          · obtain rfl : k = m := by omega
            have hfin : ByteArray.empty = baL (trimL s.data.toList) := eq_baL (by
              unfold trimL
              rw [HT.out, hinv.out]
              unfold win
              simp [rtrim])
            have Hfin := Lib.hid hfin
            clear hfin hinv
            go_wp2_with fail
            go_ret
            exact ⟨ret_str' Hfin.out, rfl⟩
      · rw [hb] at hbl
        have hinv' : Hid (s.data.toList.dropWhile bl = (s.data.toList.drop (k + 1)).dropWhile bl) := by
          show _ = _
          rw [hinv.out, drop_step hl hbl]
        rcases blankB_iff.1 hb with h | h | h | h
        all_goals
          subst h
          clear hb hbl hinv hl
          go_wp2_with fail
          go_round
          case rel => exact ⟨k + 1, by omega, by go_num, hinv'⟩
          case measure => simp [intOf] <;> omega
    · have hT : s.data.toList.dropWhile bl = s.data.toList.drop k := by
        rw [hinv.out, List.drop_eq_nil_of_le (by simp; omega)]; rfl
      have HT := Lib.hid hT
      clear hT hinv
      go_wp2_with fail
      go_loop [4] (fun v => ∃ m : Nat, k ≤ m ∧ m ≤ s.size ∧ v = .int .i64 m ∧ Hid (rtrim (s.data.toList.drop k) = rtrim (win s.data.toList k m))) (fun v => (intOf v).toNat)
      case atStart => exact ⟨s.size, by omega, by omega, rfl, by show _ = _; unfold win; rw [List.take_of_length_le (by simp)]⟩
      case round =>
        obtain ⟨m, hkm, hms, rfl, hinv⟩ := hrel
        by_cases hgt : k < m
        · exfalso; omega
        · obtain rfl : k = m := by omega
          have hfin : ByteArray.empty = baL (trimL s.data.toList) := eq_baL (by
            unfold trimL
            rw [HT.out, hinv.out]
            unfold win
            simp [rtrim])
          have Hfin := Lib.hid hfin
          clear hfin hinv
          go_wp2_with fail
          go_ret
          exact ⟨ret_str' Hfin.out, rfl⟩

/-- The place of the first letter, from a place on, that may not stand in a text; -1: there is none. -/
def textFrom (l : List UInt8) (k : Nat) : Int :=
  if h : k < l.length then
    if _h0 : (getL (l.drop k)).2 ≤ 0 ∨ letterB (getL (l.drop k)).1 = false then (k : Int) else textFrom l (k + (getL (l.drop k)).2.toNat)
  else -1
termination_by l.length - k
decreasing_by omega
theorem textFrom_end {l : List UInt8} {k : Nat} (h : l.length ≤ k) : textFrom l k = -1 := by rw [textFrom, dif_neg (by omega)]
theorem textFrom_bad {l : List UInt8} {k n : Nat} {r : Int} (h : k < l.length) (hg : getL (l.drop k) = (r, (n : Int))) (hb : n = 0 ∨ letterB r = false) : textFrom l k = k := by
  rw [textFrom, dif_pos h, dif_pos (by rw [hg]; simp; exact hb)]
theorem textFrom_next {l : List UInt8} {k n : Nat} {r : Int} (h : k < l.length) (hn : 0 < n) (hb : letterB r = true) (hg : getL (l.drop k) = (r, (n : Int))) : textFrom l k = textFrom l (k + n) := by
  rw [textFrom, dif_pos h, dif_neg (by rw [hg]; simp [hb]; omega), hg]; simp
theorem getL_may {l : List UInt8} {r : Int} {n : Nat} (h : getL l = (r, (n : Int))) (hn : 0 < n) : mayB r = true := by
  rcases getL_cases l with e | ⟨m, h1, _, hl, e, hh⟩
  · rw [e] at h; simp at h; omega
  · rw [e] at h
    simp at h
    obtain ⟨h, hmn⟩ := h
    obtain rfl : m = n := by omega
    have := ((hit_iff l m).1 hh).2
    rw [h] at this
    cases hm : mayB r
    · rw [putI_no hm] at this
      have h2 := congrArg List.length this
      simp [numsOf] at h2
      omega
    · rfl

theorem text_any (s : ByteArray) (w : World) (hs : s.size ≤ maxLen) :
    Calls Try.prog 34 #[.string s] w fun e w' => e = .returned (.int .i64 (textFrom s.data.toList 0)) ∧ w = w' := by
  have hs' := hs
  unfold maxLen at hs
  have Hs := Lib.hid hs'
  clear hs'
  go_enter Try.func34, Try.ntmps34
  go_wp2_with fail
  go_loop [3] (fun a => ∃ k : Nat, k ≤ s.size ∧ a = .int .i64 k ∧ Hid (textFrom s.data.toList 0 = textFrom s.data.toList k)) (fun a => s.size - (intOf a).toNat)
  case atStart => exact ⟨0, by omega, rfl, rfl⟩
  case round =>
    obtain ⟨k, hk, rfl, hinv⟩ := hrel
    by_cases hlt : k < s.size
    · obtain ⟨r, n, hg, hn, hn4⟩ := get_at s k hlt
      have hc := get_some s k Hs.out hlt hg
      have Hc := Lib.hid hc
      clear hc
      by_cases h0 : n = 0
      · subst h0
        have hfin := hinv.out.trans (textFrom_bad (by simpa using hlt) hg (.inl rfl))
        have Hfin := Lib.hid hfin
        clear hfin hg
        go_wp2_with (go_at_call 13; refine (Hc.out _).mono ?_; rintro e w' ⟨rfl, rfl⟩)
        go_ret
        exact ⟨by rw [Hfin.out]; rfl, rfl⟩
      · have hz : ((n : Int) == 0) = false := by simp; omega
        have hlet := letter_any r
        cases hb : letterB r
        · rw [hb] at hlet
          have Hlet := Lib.hid hlet
          have hfin := hinv.out.trans (textFrom_bad (by simpa using hlt) hg (.inr hb))
          have Hfin := Lib.hid hfin
          clear hfin hg hb hlet
          go_wp2_with (first | (go_at_call 13; refine (Hc.out _).mono ?_; rintro e w' ⟨rfl, rfl⟩) | (go_at_call 33; refine (Hlet.out _).mono ?_; rintro e w' ⟨rfl, rfl⟩))
          go_ret
          exact ⟨by rw [Hfin.out]; rfl, rfl⟩
        · rw [hb] at hlet
          have Hlet := Lib.hid hlet
          have hfin := hinv.out.trans (textFrom_next (by simpa using hlt) (by omega) hb hg)
          have Hfin := Lib.hid hfin
          clear hfin hg hb hlet
          go_wp2_with (first | (go_at_call 13; refine (Hc.out _).mono ?_; rintro e w' ⟨rfl, rfl⟩) | (go_at_call 33; refine (Hlet.out _).mono ?_; rintro e w' ⟨rfl, rfl⟩))
          go_round
          case rel => exact ⟨k + n, by omega, by go_num, Hfin⟩
          case measure => simp [intOf] <;> omega
    · have hfin := hinv.out.trans (textFrom_end (by simpa using hlt))
      have Hfin := Lib.hid hfin
      clear hfin
      go_wp2_with fail
      go_ret
      exact ⟨by rw [Hfin.out]; rfl, rfl⟩

set_option maxHeartbeats 1000000 in
theorem rtext_any (s : ByteArray) (w : World) (hs : s.size ≤ maxLen) :
    Calls Try.prog 32 #[.string s] w fun e w' => e = .returned (.int .i64 (textFrom s.data.toList 0)) ∧ Below w.heap.size w w' := by
  have hs' := hs
  unfold maxLen at hs
  have Hs := Lib.hid hs'
  clear hs'
  go_enter Try.func32, Try.ntmps32
  go_wp2_with fail
  go_loopw [3] (fun a wr => ∃ k : Nat, k ≤ s.size ∧ a = .int .i64 k ∧ Hid (textFrom s.data.toList 0 = textFrom s.data.toList k) ∧ Below w.heap.size w wr) (fun a _ => s.size - (intOf a).toNat)
  case atStart => exact ⟨0, by omega, rfl, rfl, Below.refl _ _⟩
  case round =>
    obtain ⟨k, hk, rfl, hinv, hbw⟩ := hrel
    by_cases hlt : k < s.size
    · obtain ⟨r, n, hg, hn, hn4⟩ := get_at s k hlt
      have hc := rget_some s k Hs.out hg
      have Hc := Lib.hid hc
      clear hc
      by_cases h0 : n = 0
      · subst h0
        have hfin := hinv.out.trans (textFrom_bad (by simpa using hlt) hg (.inl rfl))
        have Hfin := Lib.hid hfin
        clear hfin hg
        go_wp2_with (go_at_call 18; refine (Hc.out _).mono ?_; rintro e w1 ⟨rfl, hb1⟩)
        go_ret
        exact ⟨by rw [Hfin.out]; rfl, hbw.trans (hb1.mono hbw.size)⟩
      · have hz : ((n : Int) == 0) = false := by simp; omega
        have hmay := getL_may hg (by omega)
        cases hb : letterB r
        · have hfin := hinv.out.trans (textFrom_bad (by simpa using hlt) hg (.inr hb))
          have Hfin := Lib.hid hfin
          have hcase : r < 32 ∧ ¬ r = 9 ∧ ¬ r = 10 ∧ ¬ r = 13 ∨ r = 65534 ∨ r = 65535 := by
            have h1 : ¬ (r < 32 ∧ (r = 9 ∨ r = 10 ∨ r = 13) ∨ 32 ≤ r ∧ mayB r = true ∧ r ≠ 65534 ∧ r ≠ 65535) := fun h => by rw [letterB_iff.2 h] at hb; cases hb
            rw [hmay] at h1
            simp at h1
            omega
          clear hfin hg hb hmay
          rcases hcase with ⟨g1, g2, g3, g4⟩ | g | g
          · go_wp2_with (go_at_call 18; refine (Hc.out _).mono ?_; rintro e w1 ⟨rfl, hb1⟩)
            go_ret
            exact ⟨by rw [Hfin.out]; rfl, hbw.trans (hb1.mono hbw.size)⟩
          · subst g
            go_wp2_with (go_at_call 18; refine (Hc.out _).mono ?_; rintro e w1 ⟨rfl, hb1⟩)
            go_ret
            exact ⟨by rw [Hfin.out]; rfl, hbw.trans (hb1.mono hbw.size)⟩
          · subst g
            go_wp2_with (go_at_call 18; refine (Hc.out _).mono ?_; rintro e w1 ⟨rfl, hb1⟩)
            go_ret
            exact ⟨by rw [Hfin.out]; rfl, hbw.trans (hb1.mono hbw.size)⟩
        · have hfin := hinv.out.trans (textFrom_next (by simpa using hlt) (by omega) hb hg)
          have Hfin := Lib.hid hfin
          have hcase : r = 9 ∨ r = 10 ∨ r = 13 ∨ (32 ≤ r ∧ (r == 65534) = false ∧ (r == 65535) = false) := by
            have := letterB_iff.1 hb
            simp
            omega
          clear hfin hg hb hmay
          rcases hcase with g | g | g | ⟨g1, g2, g3⟩
          all_goals
            first | subst g | skip
            go_wp2_with (go_at_call 18; refine (Hc.out _).mono ?_; rintro e w1 ⟨rfl, hb1⟩)
            go_roundw
            case rel => exact ⟨k + n, by omega, by go_num, Hfin, hbw.trans (hb1.mono hbw.size)⟩
            case measure => simp [intOf] <;> omega
    · have hfin := hinv.out.trans (textFrom_end (by simpa using hlt))
      have Hfin := Lib.hid hfin
      clear hfin
      go_wp2_with fail
      go_ret
      exact ⟨by rw [Hfin.out]; rfl, hbw⟩
end Go.Proofs.Ytgdkmipkgjkjjaa
