/- The contracts of utf.Bad, utf.Count and galliardref01.Bad. -/
import Derived.Test.YtgdkmipkgjkjjaaUtfQ
import Derived.Test.YtgdkmipkgjkjjaaUtfD
namespace Go.Proofs.Ytgdkmipkgjkjjaa
open Go.RowKit

/-- The place of the first byte, from a place on, that begins no letter; -1: there is none. -/
def badFrom (l : List UInt8) (k : Nat) : Int :=
  if h : k < l.length then
    if _h0 : (getL (l.drop k)).2 ≤ 0 then (k : Int) else badFrom l (k + (getL (l.drop k)).2.toNat)
  else -1
termination_by l.length - k
decreasing_by omega
/-- How many letters there are from a place on, up to the first byte that begins none. -/
def countFrom (l : List UInt8) (k : Nat) : Nat :=
  if h : k < l.length then
    if _h0 : (getL (l.drop k)).2 ≤ 0 then 0 else countFrom l (k + (getL (l.drop k)).2.toNat) + 1
  else 0
termination_by l.length - k
decreasing_by omega
theorem badFrom_end {l : List UInt8} {k : Nat} (h : l.length ≤ k) : badFrom l k = -1 := by rw [badFrom, dif_neg (by omega)]
theorem badFrom_bad {l : List UInt8} {k : Nat} {r : Int} (h : k < l.length) (hg : getL (l.drop k) = (r, 0)) : badFrom l k = k := by rw [badFrom, dif_pos h, dif_pos (by rw [hg]; exact Int.le_refl _)]
theorem badFrom_next {l : List UInt8} {k n : Nat} {r : Int} (h : k < l.length) (hn : 0 < n) (hg : getL (l.drop k) = (r, (n : Int))) : badFrom l k = badFrom l (k + n) := by
  rw [badFrom, dif_pos h, dif_neg (by rw [hg]; simp; omega), hg]; simp
theorem countFrom_end {l : List UInt8} {k : Nat} (h : l.length ≤ k) : countFrom l k = 0 := by rw [countFrom, dif_neg (by omega)]
theorem countFrom_bad {l : List UInt8} {k : Nat} {r : Int} (h : k < l.length) (hg : getL (l.drop k) = (r, 0)) : countFrom l k = 0 := by rw [countFrom, dif_pos h, dif_pos (by rw [hg]; exact Int.le_refl _)]
theorem countFrom_next {l : List UInt8} {k n : Nat} {r : Int} (h : k < l.length) (hn : 0 < n) (hg : getL (l.drop k) = (r, (n : Int))) : countFrom l k = countFrom l (k + n) + 1 := by
  rw [countFrom, dif_pos h, dif_neg (by rw [hg]; simp; omega), hg]; simp
theorem countFrom_le (l : List UInt8) : ∀ (m k : Nat), l.length - k ≤ m → countFrom l k ≤ l.length - k
  | 0, k, h => by rw [countFrom_end (by omega)]; omega
  | m + 1, k, h => by
    rw [countFrom]
    split
    · split
      · omega
      · have := countFrom_le l m (k + (getL (l.drop k)).2.toNat) (by omega)
        omega
    · omega
/-- What is read at a place that is there. -/
theorem get_at (s : ByteArray) (k : Nat) (h : k < s.size) : ∃ (r : Int) (n : Nat), getL (s.data.toList.drop k) = (r, (n : Int)) ∧ k + n ≤ s.size ∧ n ≤ 4 := by
  rcases getL_cases (s.data.toList.drop k) with e | ⟨n, h1, h4, hl, e, _⟩
  · exact ⟨0, 0, e, by omega, by omega⟩
  · exact ⟨_, n, e, by simp at hl; omega, h4⟩
theorem get_some (s : ByteArray) (k : Nat) (hs : s.size ≤ maxLen) (hk : k < s.size) {r : Int} {n : Nat} (hg : getL (s.data.toList.drop k) = (r, (n : Int))) (w : World) :
    Calls Try.prog 13 #[.string s, .int .i64 k] w fun e w' => e = .returned (.tuple #[.int .i64 r, .int .i64 n]) ∧ w = w' := by
  have := get_in s k w hs hk
  rw [hg] at this
  exact this
theorem rget_some (s : ByteArray) (k : Nat) (hs : s.size ≤ maxLen) {r : Int} {n : Nat} (hg : getL (s.data.toList.drop k) = (r, (n : Int))) (w : World) :
    Calls Try.prog 18 #[.string (s.extract k s.size)] w fun e w' => e = .returned (.tuple #[.int .i64 r, .int .i64 n]) ∧ Below w.heap.size w w' := by
  have h := rget_any (s.extract k s.size) w (by simp only [ByteArray.size_extract]; unfold maxLen at hs ⊢; omega)
  have e : getR (s.extract k s.size).data.toList = (r, (n : Int)) := by
    rw [getR_eq, Lib.extract_data, List.take_of_length_le (by simp), hg]
  rw [e] at h
  exact h

theorem bad_any (s : ByteArray) (w : World) (hs : s.size ≤ maxLen) :
    Calls Try.prog 19 #[.string s] w fun e w' => e = .returned (.int .i64 (badFrom s.data.toList 0)) ∧ w = w' := by
  have hs' := hs
  unfold maxLen at hs
  have Hs := Lib.hid hs'
  clear hs'
  go_enter Try.func19, Try.ntmps19
  go_wp2_with fail
  go_loop [3] (fun a => ∃ k : Nat, k ≤ s.size ∧ a = .int .i64 k ∧ Hid (badFrom s.data.toList 0 = badFrom s.data.toList k)) (fun a => s.size - (intOf a).toNat)
  case atStart => exact ⟨0, by omega, rfl, rfl⟩
  case round =>
    obtain ⟨k, hk, rfl, hinv⟩ := hrel
    by_cases hlt : k < s.size
    · obtain ⟨r, n, hg, hn, hn4⟩ := get_at s k hlt
      have hc := get_some s k Hs.out hlt hg
      have Hc := Lib.hid hc
      clear hc
      by_cases h0 : n = 0
      · subst h0
        have hfin := hinv.out.trans (badFrom_bad (by simpa using hlt) hg)
        have Hfin := Lib.hid hfin
        clear hfin hg
        go_wp2_with (go_at_call 13; refine (Hc.out _).mono ?_; rintro e w' ⟨rfl, rfl⟩)
        go_ret
        exact ⟨by rw [Hfin.out]; rfl, rfl⟩
      · have hfin := hinv.out.trans (badFrom_next (by simpa using hlt) (by omega) hg)
        have Hfin := Lib.hid hfin
        clear hfin hg
        have hz : ((n : Int) == 0) = false := by simp; omega
        go_wp2_with (go_at_call 13; refine (Hc.out _).mono ?_; rintro e w' ⟨rfl, rfl⟩)
        go_round
        case rel => exact ⟨k + n, by omega, by go_num, Hfin⟩
        case measure => simp [intOf]; omega
    · have hfin := hinv.out.trans (badFrom_end (by simpa using hlt))
      have Hfin := Lib.hid hfin
      clear hfin
      go_wp2_with fail
      go_ret
      exact ⟨by rw [Hfin.out]; rfl, rfl⟩

theorem rbad_any (s : ByteArray) (w : World) (hs : s.size ≤ maxLen) :
    Calls Try.prog 20 #[.string s] w fun e w' => e = .returned (.int .i64 (badFrom s.data.toList 0)) ∧ Below w.heap.size w w' := by
  have hs' := hs
  unfold maxLen at hs
  have Hs := Lib.hid hs'
  clear hs'
  go_enter Try.func20, Try.ntmps20
  go_wp2_with fail
  go_loopw [3] (fun a wr => ∃ k : Nat, k ≤ s.size ∧ a = .int .i64 k ∧ Hid (badFrom s.data.toList 0 = badFrom s.data.toList k) ∧ Below w.heap.size w wr) (fun a _ => s.size - (intOf a).toNat)
  case atStart => exact ⟨0, by omega, rfl, rfl, Below.refl _ _⟩
  case round =>
    obtain ⟨k, hk, rfl, hinv, hbw⟩ := hrel
    by_cases hlt : k < s.size
    · obtain ⟨r, n, hg, hn, hn4⟩ := get_at s k hlt
      have hc := rget_some s k Hs.out hg
      have Hc := Lib.hid hc
      clear hc
      by_cases h0 : n = 0
      · subst h0
        have hfin := hinv.out.trans (badFrom_bad (by simpa using hlt) hg)
        have Hfin := Lib.hid hfin
        clear hfin hg
        go_wp2_with (go_at_call 18; refine (Hc.out _).mono ?_; rintro e w1 ⟨rfl, hb1⟩)
        go_ret
        exact ⟨by rw [Hfin.out]; rfl, hbw.trans (hb1.mono hbw.size)⟩
      · have hfin := hinv.out.trans (badFrom_next (by simpa using hlt) (by omega) hg)
        have Hfin := Lib.hid hfin
        clear hfin hg
        have hz : ((n : Int) == 0) = false := by simp; omega
        go_wp2_with (go_at_call 18; refine (Hc.out _).mono ?_; rintro e w1 ⟨rfl, hb1⟩)
        go_roundw
        case rel => exact ⟨k + n, by omega, by go_num, Hfin, hbw.trans (hb1.mono hbw.size)⟩
        case measure => simp [intOf]; omega
    · have hfin := hinv.out.trans (badFrom_end (by simpa using hlt))
      have Hfin := Lib.hid hfin
      clear hfin
      go_wp2_with fail
      go_ret
      exact ⟨by rw [Hfin.out]; rfl, hbw⟩

theorem count_any (s : ByteArray) (w : World) (hs : s.size ≤ maxLen) :
    Calls Try.prog 21 #[.string s] w fun e w' => e = .returned (.int .i64 (countFrom s.data.toList 0 : Nat)) ∧ w = w' := by
  have hs' := hs
  unfold maxLen at hs
  have Hs := Lib.hid hs'
  clear hs'
  go_enter Try.func21, Try.ntmps21
  go_wp2_with fail
  go_loop [3, 4] (fun c a => ∃ k m : Nat, k ≤ s.size ∧ m ≤ k ∧ c = .int .i64 m ∧ a = .int .i64 k ∧ Hid (countFrom s.data.toList 0 = m + countFrom s.data.toList k)) (fun _ a => s.size - (intOf a).toNat)
  case atStart => exact ⟨0, 0, by omega, by omega, rfl, rfl, by show _ = _; omega⟩
  case round =>
    obtain ⟨k, m, hk, hmk, rfl, rfl, hinv⟩ := hrel
    by_cases hlt : k < s.size
    · obtain ⟨r, n, hg, hn, hn4⟩ := get_at s k hlt
      have hc := get_some s k Hs.out hlt hg
      have Hc := Lib.hid hc
      clear hc
      by_cases h0 : n = 0
      · subst h0
        have hfin := hinv.out
        rw [countFrom_bad (by simpa using hlt) hg, Nat.add_zero] at hfin
        have Hfin := Lib.hid hfin
        clear hfin hg
        go_wp2_with (go_at_call 13; refine (Hc.out _).mono ?_; rintro e w' ⟨rfl, rfl⟩)
        go_ret
        exact ⟨by rw [Hfin.out]; rfl, rfl⟩
      · have hfin := hinv.out
        rw [countFrom_next (by simpa using hlt) (by omega) hg] at hfin
        have Hfin := Lib.hid hfin
        clear hfin hg
        have hz : ((n : Int) == 0) = false := by simp; omega
        go_wp2_with (go_at_call 13; refine (Hc.out _).mono ?_; rintro e w' ⟨rfl, rfl⟩)
        go_round
        case rel => exact ⟨k + n, m + 1, by omega, by omega, by go_num, by go_num, by have := Hfin.out; show _ = _; omega⟩
        case measure => simp [intOf]; omega
    · have hfin := hinv.out
      rw [countFrom_end (k := k) (by simp; omega), Nat.add_zero] at hfin
      have Hfin := Lib.hid hfin
      clear hfin
      go_wp2_with fail
      go_ret
      exact ⟨by rw [Hfin.out]; rfl, rfl⟩
end Go.Proofs.Ytgdkmipkgjkjjaa
