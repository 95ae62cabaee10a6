/- The walk of the law CharsNames. -/
import Derived.Test.YtgdkmipkgjkjjaaCharsG
namespace Go.Proofs.Ytgdkmipkgjkjjaa
open Go.RowKit
attribute [local go_sem] conv_new1

theorem first_colon (l : List UInt8) : ∀ (m k : Nat), l.length - k ≤ m → k ≤ l.length → (∀ j, j < k → Bl l j ≠ 58) → ∃ i, i ≤ l.length ∧ (∀ j, j < i → Bl l j ≠ 58) ∧ (i < l.length → Bl l i = 58)
  | 0, k, hm, hk, h => ⟨k, hk, h, fun hlt => by omega⟩
  | m + 1, k, hm, hk, h => by
    by_cases hlt : k < l.length
    · by_cases hc : Bl l k = 58
      · exact ⟨k, hk, h, fun _ => hc⟩
      · exact first_colon l m (k + 1) (by omega) (by omega) (fun j hj => by
          by_cases hjk : j = k
          · rw [hjk]; exact hc
          · exact h j (by omega))
    · exact ⟨k, hk, h, fun hl => by omega⟩
theorem Bl_append_left {a b : List UInt8} {j : Nat} (h : j < a.length) : Bl (a ++ b) j = Bl a j := by
  unfold Bl; rw [List.getD_eq_getElem?_getD, List.getD_eq_getElem?_getD, List.getElem?_append_left h]
theorem Bl_append_at {a b : List UInt8} {c : UInt8} : Bl (a ++ c :: b) a.length = (c.toNat : Int) := by
  unfold Bl; rw [List.getD_eq_getElem?_getD, List.getElem?_append_right (Nat.le_refl _)]; simp
theorem Bl_take {a : List UInt8} {i j : Nat} (h : j < i) : Bl (a.take i) j = Bl a j := by
  unfold Bl; rw [List.getD_eq_getElem?_getD, List.getD_eq_getElem?_getD, List.getElem?_take_of_lt h]
/-- What the law is told of its two texts. -/
structure Told (a b X : ByteArray) (i : Nat) (n0 n1 n2 : Bool) : Prop where
  split : ∀ w, Calls Try.prog 22 #[.string X] w fun e w' => e = .returned (.tuple #[.string (a.extract 0 i), .string (X.extract (i + 1) X.size), .bool (n1 && n2)]) ∧ ∃ n, w' = w.drewN n
  none_ : ∀ w, Calls Try.prog 22 #[.string (a.extract 0 i)] w fun e w' => e = .returned (.tuple #[.string ByteArray.empty, .string (a.extract 0 i), .bool n1]) ∧ w = w'
  name : ∀ w, Calls Try.prog 24 #[.string a] w fun e w' => e = .returned (.bool n0) ∧ w = w'
  ref : ∀ w, Calls Try.prog 25 #[.string a] w fun e w' => e = .returned (.bool n0) ∧ Below w.heap.size w w'
  ref1 : ∀ w, Calls Try.prog 25 #[.string (a.extract 0 i)] w fun e w' => e = .returned (.bool n1) ∧ Below w.heap.size w w'
  ref2 : ∀ w, Calls Try.prog 25 #[.string (X.extract (i + 1) X.size)] w fun e w' => e = .returned (.bool n2) ∧ Below w.heap.size w w'
  no : ∀ j, j < i → Bl a.data.toList j ≠ 58
  at_ : i < a.size → Bl a.data.toList i = 58
theorem told (a b : ByteArray) (ha : a.size ≤ 64) (hb : b.size ≤ 20) : ∃ (X : ByteArray) (i : Nat) (n0 n1 n2 : Bool), a ++ ByteArray.mk #[58] ++ b = X ∧ i ≤ a.size ∧ i + 1 ≤ X.size ∧ X.size ≤ 85 ∧ Hid (Told a b X i n0 n1 n2) := by
  obtain ⟨i, hi, hno, hat⟩ := first_colon a.data.toList a.data.toList.length 0 (by omega) (by omega) (fun j hj => by omega)
  have hi' : i ≤ a.size := by simpa using hi
  have hXl : (a ++ ByteArray.mk #[58] ++ b).data.toList = a.data.toList ++ 58 :: b.data.toList := by simp
  have hXs : (a ++ ByteArray.mk #[58] ++ b).size = a.size + 1 + b.size := by rw [Lib.size_eq, hXl]; simp; omega
  refine ⟨_, i, nameB a.data.toList, nameB (a.extract 0 i).data.toList, nameB ((a ++ ByteArray.mk #[58] ++ b).extract (i + 1) (a ++ ByteArray.mk #[58] ++ b).size).data.toList, rfl, hi', by omega, by omega, ?_⟩
  generalize a ++ ByteArray.mk #[58] ++ b = X at *
  have hmx : X.size ≤ maxLen := by unfold maxLen; omega
  have hma : a.size ≤ maxLen := by unfold maxLen; omega
  have hA : (a.extract 0 i).data.toList = a.data.toList.take i := by rw [Lib.extract_data]; simp
  have e1 : X.extract 0 i = a.extract 0 i := by
    apply ByteArray.ext
    apply Array.toList_inj.1
    rw [Lib.extract_data, Lib.extract_data, hXl]
    simp only [List.drop_zero, Nat.sub_zero]
    rw [List.take_append_of_le_length hi]
  have hcol : Bl X.data.toList i = 58 := by
    rw [hXl]
    by_cases h : i < a.data.toList.length
    · rw [Bl_append_left h]; exact hat h
    · have : i = a.data.toList.length := by omega
      rw [this, Bl_append_at]; rfl
  have hsA : (a.extract 0 i).size ≤ maxLen := by simp only [ByteArray.size_extract]; unfold maxLen; omega
  refine ⟨fun w => ?_, fun w => ?_, fun w => name_any a w hma, fun w => rname_any a w hma, fun w => rname_any _ w hsA, fun w => rname_any _ w (by simp only [ByteArray.size_extract]; unfold maxLen; omega), hno, fun h => hat (by simpa using h)⟩
  · have h := split_at X i w hmx (by omega) hcol (fun j hj => by rw [hXl, Bl_append_left (by omega)]; exact hno j hj)
    rw [e1] at h
    exact h
  · exact split_none _ w hsA (fun j hj => by
      have hj' : j < i := by simp only [ByteArray.size_extract] at hj; omega
      rw [hA, Bl_take hj']
      exact hno j hj')

theorem below_four {w w1 w2 w3 w4 w6 : World} (h2 : Below w1.heap.size w1 w2) (h3 : Below w2.heap.size w2 w3) (h4 : Below w3.heap.size w3 w4) (h6 : Below w4.heap.size w4 w6) (m : Nat) (hw : w1 = (w.drewN m)) : Below w.heap.size w w6 := by
  have h1 : Below w.heap.size w w1 := by rw [hw]; exact ⟨rfl, rfl, rfl, Nat.le_refl _, fun _ _ => rfl⟩
  have e2 := h1.trans (h2.mono h1.size)
  have e3 := e2.trans (h3.mono e2.size)
  have e4 := e3.trans (h4.mono e3.size)
  exact e4.trans (h6.mono e4.size)
set_option maxHeartbeats 1000000 in
theorem names_1 (a0 a1 : ByteArray) (w : World) (w0 : a0.size ≤ maxLen) (w1 : a1.size ≤ maxLen) (hsa : (64 : Int) < a0.size) (hsb : (20 : Int) < a1.size) :
    Calls Try.prog 6 #[.string a0, .string a1] w fun e w' => e = .returned (.bool true) ∧ Below w.heap.size w w' := by
  unfold maxLen at w0 w1
  go_enter Try.func6, Try.ntmps6
  go_wp2_with fail
  go_quiet (fail)
  generalize hga : a0.extract 0 64 = a
  have na : a.size ≤ 64 := by rw [← hga]; simp; omega
  clear hga
  generalize hgb : a1.extract 0 20 = b
  have nb : b.size ≤ 20 := by rw [← hgb]; simp; omega
  clear hgb
  obtain ⟨X, i, n0, n1, n2, hX, hia, hix, hx85, T⟩ := told a b na nb
  go_wp2_with fail
  refine (T.out.split _).mono ?_
  rintro e w' ⟨rfl, n, rfl⟩
  go_wp2_with fail
  go_loop [10] (fun v => ∃ k : Nat, k ≤ i ∧ v = .int .i64 k) (fun v => i - (intOf v).toNat)
  case atStart => exact ⟨0, by omega, rfl⟩
  case round =>
    obtain ⟨k, hk, rfl⟩ := hrel
    by_cases hlt : k < i
    · obtain ⟨c, HC, hx, lo, hhi, hs0⟩ := byte_of a k (by omega)
      have hc : (c != 58) = true := by
        have := T.out.no k hlt
        rw [← HC.out] at this
        simpa using this
      have hka : k < a.size := by omega
      go_wp2_with fail
      go_round
      case rel => exact ⟨k + 1, by omega, by go_num⟩
      case measure => simp [intOf]; omega
    · obtain rfl : k = i := by omega
      by_cases hka : k < a.size
      · obtain ⟨c, HC, hx, lo, hhi, hs0⟩ := byte_of a k hka
        obtain rfl : c = 58 := by rw [HC.out]; exact T.out.at_ hka
        cases n1
        · go_wp2_with fail
          go_quiet (fail)
          go_wp2_with fail
          refine (T.out.none_ _).mono ?_
          rintro e w' ⟨rfl, rfl⟩
          go_wp2_with fail
          refine (chars_awake _).mono ?_
          rintro e w2 ⟨rfl, hb2⟩
          go_wp2_with fail
          refine (T.out.name _).mono ?_
          rintro e w' ⟨rfl, rfl⟩
          go_wp2_with fail
          refine (T.out.ref _).mono ?_
          rintro e w3 ⟨rfl, hb3⟩
          go_wp2_with fail
          refine (T.out.ref1 _).mono ?_
          rintro e w4 ⟨rfl, hb4⟩
          go_wp2_with fail
          refine (T.out.ref1 _).mono ?_
          rintro e w6 ⟨rfl, hb6⟩
          go_wp2_with fail
          go_ret
          exact ⟨rfl, below_four hb2 hb3 hb4 hb6 _ rfl⟩
        · go_wp2_with fail
          go_quiet (fail)
          go_wp2_with fail
          refine (T.out.none_ _).mono ?_
          rintro e w' ⟨rfl, rfl⟩
          go_wp2_with fail
          refine (chars_awake _).mono ?_
          rintro e w2 ⟨rfl, hb2⟩
          go_wp2_with fail
          refine (T.out.name _).mono ?_
          rintro e w' ⟨rfl, rfl⟩
          go_wp2_with fail
          refine (T.out.ref _).mono ?_
          rintro e w3 ⟨rfl, hb3⟩
          go_wp2_with fail
          refine (T.out.ref1 _).mono ?_
          rintro e w4 ⟨rfl, hb4⟩
          go_wp2_with fail
          refine (T.out.ref2 _).mono ?_
          rintro e w5 ⟨rfl, hb5⟩
          go_wp2_with fail
          refine (T.out.ref1 _).mono ?_
          rintro e w6 ⟨rfl, hb6⟩
          go_wp2_with fail
          go_ret
          exact ⟨rfl, below_four hb2 hb3 hb4 (hb5.trans (hb6.mono hb5.size)) _ rfl⟩
      · have hka2 : a.size ≤ k := by omega
        cases n1
        · go_wp2_with fail
          go_quiet (fail)
          go_wp2_with fail
          refine (T.out.none_ _).mono ?_
          rintro e w' ⟨rfl, rfl⟩
          go_wp2_with fail
          refine (chars_awake _).mono ?_
          rintro e w2 ⟨rfl, hb2⟩
          go_wp2_with fail
          refine (T.out.name _).mono ?_
          rintro e w' ⟨rfl, rfl⟩
          go_wp2_with fail
          refine (T.out.ref _).mono ?_
          rintro e w3 ⟨rfl, hb3⟩
          go_wp2_with fail
          refine (T.out.ref1 _).mono ?_
          rintro e w4 ⟨rfl, hb4⟩
          go_wp2_with fail
          refine (T.out.ref1 _).mono ?_
          rintro e w6 ⟨rfl, hb6⟩
          go_wp2_with fail
          go_ret
          exact ⟨rfl, below_four hb2 hb3 hb4 hb6 _ rfl⟩
        · go_wp2_with fail
          go_quiet (fail)
          go_wp2_with fail
          refine (T.out.none_ _).mono ?_
          rintro e w' ⟨rfl, rfl⟩
          go_wp2_with fail
          refine (chars_awake _).mono ?_
          rintro e w2 ⟨rfl, hb2⟩
          go_wp2_with fail
          refine (T.out.name _).mono ?_
          rintro e w' ⟨rfl, rfl⟩
          go_wp2_with fail
          refine (T.out.ref _).mono ?_
          rintro e w3 ⟨rfl, hb3⟩
          go_wp2_with fail
          refine (T.out.ref1 _).mono ?_
          rintro e w4 ⟨rfl, hb4⟩
          go_wp2_with fail
          refine (T.out.ref2 _).mono ?_
          rintro e w5 ⟨rfl, hb5⟩
          go_wp2_with fail
          refine (T.out.ref1 _).mono ?_
          rintro e w6 ⟨rfl, hb6⟩
          go_wp2_with fail
          go_ret
          exact ⟨rfl, below_four hb2 hb3 hb4 (hb5.trans (hb6.mono hb5.size)) _ rfl⟩
set_option maxHeartbeats 1000000 in
theorem names_2 (a0 a1 : ByteArray) (w : World) (w0 : a0.size ≤ maxLen) (w1 : a1.size ≤ maxLen) (hsa : (64 : Int) < a0.size) (hsb : (a1.size : Int) ≤ 20) :
    Calls Try.prog 6 #[.string a0, .string a1] w fun e w' => e = .returned (.bool true) ∧ Below w.heap.size w w' := by
  unfold maxLen at w0 w1
  have nb : a1.size ≤ 20 := by omega
  go_enter Try.func6, Try.ntmps6
  go_wp2_with fail
  go_quiet (fail)
  generalize hga : a0.extract 0 64 = a
  have na : a.size ≤ 64 := by rw [← hga]; simp; omega
  clear hga
  obtain ⟨X, i, n0, n1, n2, hX, hia, hix, hx85, T⟩ := told a a1 na nb
  go_wp2_with fail
  refine (T.out.split _).mono ?_
  rintro e w' ⟨rfl, n, rfl⟩
  go_wp2_with fail
  go_loop [10] (fun v => ∃ k : Nat, k ≤ i ∧ v = .int .i64 k) (fun v => i - (intOf v).toNat)
  case atStart => exact ⟨0, by omega, rfl⟩
  case round =>
    obtain ⟨k, hk, rfl⟩ := hrel
    by_cases hlt : k < i
    · obtain ⟨c, HC, hx, lo, hhi, hs0⟩ := byte_of a k (by omega)
      have hc : (c != 58) = true := by
        have := T.out.no k hlt
        rw [← HC.out] at this
        simpa using this
      have hka : k < a.size := by omega
      go_wp2_with fail
      go_round
      case rel => exact ⟨k + 1, by omega, by go_num⟩
      case measure => simp [intOf]; omega
    · obtain rfl : k = i := by omega
      by_cases hka : k < a.size
      · obtain ⟨c, HC, hx, lo, hhi, hs0⟩ := byte_of a k hka
        obtain rfl : c = 58 := by rw [HC.out]; exact T.out.at_ hka
        cases n1
        · go_wp2_with fail
          go_quiet (fail)
          go_wp2_with fail
          refine (T.out.none_ _).mono ?_
          rintro e w' ⟨rfl, rfl⟩
          go_wp2_with fail
          refine (chars_awake _).mono ?_
          rintro e w2 ⟨rfl, hb2⟩
          go_wp2_with fail
          refine (T.out.name _).mono ?_
          rintro e w' ⟨rfl, rfl⟩
          go_wp2_with fail
          refine (T.out.ref _).mono ?_
          rintro e w3 ⟨rfl, hb3⟩
          go_wp2_with fail
          refine (T.out.ref1 _).mono ?_
          rintro e w4 ⟨rfl, hb4⟩
          go_wp2_with fail
          refine (T.out.ref1 _).mono ?_
          rintro e w6 ⟨rfl, hb6⟩
          go_wp2_with fail
          go_ret
          exact ⟨rfl, below_four hb2 hb3 hb4 hb6 _ rfl⟩
        · go_wp2_with fail
          go_quiet (fail)
          go_wp2_with fail
          refine (T.out.none_ _).mono ?_
          rintro e w' ⟨rfl, rfl⟩
          go_wp2_with fail
          refine (chars_awake _).mono ?_
          rintro e w2 ⟨rfl, hb2⟩
          go_wp2_with fail
          refine (T.out.name _).mono ?_
          rintro e w' ⟨rfl, rfl⟩
          go_wp2_with fail
          refine (T.out.ref _).mono ?_
          rintro e w3 ⟨rfl, hb3⟩
          go_wp2_with fail
          refine (T.out.ref1 _).mono ?_
          rintro e w4 ⟨rfl, hb4⟩
          go_wp2_with fail
          refine (T.out.ref2 _).mono ?_
          rintro e w5 ⟨rfl, hb5⟩
          go_wp2_with fail
          refine (T.out.ref1 _).mono ?_
          rintro e w6 ⟨rfl, hb6⟩
          go_wp2_with fail
          go_ret
          exact ⟨rfl, below_four hb2 hb3 hb4 (hb5.trans (hb6.mono hb5.size)) _ rfl⟩
      · have hka2 : a.size ≤ k := by omega
        cases n1
        · go_wp2_with fail
          go_quiet (fail)
          go_wp2_with fail
          refine (T.out.none_ _).mono ?_
          rintro e w' ⟨rfl, rfl⟩
          go_wp2_with fail
          refine (chars_awake _).mono ?_
          rintro e w2 ⟨rfl, hb2⟩
          go_wp2_with fail
          refine (T.out.name _).mono ?_
          rintro e w' ⟨rfl, rfl⟩
          go_wp2_with fail
          refine (T.out.ref _).mono ?_
          rintro e w3 ⟨rfl, hb3⟩
          go_wp2_with fail
          refine (T.out.ref1 _).mono ?_
          rintro e w4 ⟨rfl, hb4⟩
          go_wp2_with fail
          refine (T.out.ref1 _).mono ?_
          rintro e w6 ⟨rfl, hb6⟩
          go_wp2_with fail
          go_ret
          exact ⟨rfl, below_four hb2 hb3 hb4 hb6 _ rfl⟩
        · go_wp2_with fail
          go_quiet (fail)
          go_wp2_with fail
          refine (T.out.none_ _).mono ?_
          rintro e w' ⟨rfl, rfl⟩
          go_wp2_with fail
          refine (chars_awake _).mono ?_
          rintro e w2 ⟨rfl, hb2⟩
          go_wp2_with fail
          refine (T.out.name _).mono ?_
          rintro e w' ⟨rfl, rfl⟩
          go_wp2_with fail
          refine (T.out.ref _).mono ?_
          rintro e w3 ⟨rfl, hb3⟩
          go_wp2_with fail
          refine (T.out.ref1 _).mono ?_
          rintro e w4 ⟨rfl, hb4⟩
          go_wp2_with fail
          refine (T.out.ref2 _).mono ?_
          rintro e w5 ⟨rfl, hb5⟩
          go_wp2_with fail
          refine (T.out.ref1 _).mono ?_
          rintro e w6 ⟨rfl, hb6⟩
          go_wp2_with fail
          go_ret
          exact ⟨rfl, below_four hb2 hb3 hb4 (hb5.trans (hb6.mono hb5.size)) _ rfl⟩
set_option maxHeartbeats 1000000 in
theorem names_3 (a0 a1 : ByteArray) (w : World) (w0 : a0.size ≤ maxLen) (w1 : a1.size ≤ maxLen) (hsa : (a0.size : Int) ≤ 64) (hsb : (20 : Int) < a1.size) :
    Calls Try.prog 6 #[.string a0, .string a1] w fun e w' => e = .returned (.bool true) ∧ Below w.heap.size w w' := by
  unfold maxLen at w0 w1
  have na : a0.size ≤ 64 := by omega
  go_enter Try.func6, Try.ntmps6
  go_wp2_with fail
  go_quiet (fail)
  generalize hgb : a1.extract 0 20 = b
  have nb : b.size ≤ 20 := by rw [← hgb]; simp; omega
  clear hgb
  obtain ⟨X, i, n0, n1, n2, hX, hia, hix, hx85, T⟩ := told a0 b na nb
  go_wp2_with fail
  refine (T.out.split _).mono ?_
  rintro e w' ⟨rfl, n, rfl⟩
  go_wp2_with fail
  go_loop [10] (fun v => ∃ k : Nat, k ≤ i ∧ v = .int .i64 k) (fun v => i - (intOf v).toNat)
  case atStart => exact ⟨0, by omega, rfl⟩
  case round =>
    obtain ⟨k, hk, rfl⟩ := hrel
    by_cases hlt : k < i
    · obtain ⟨c, HC, hx, lo, hhi, hs0⟩ := byte_of a0 k (by omega)
      have hc : (c != 58) = true := by
        have := T.out.no k hlt
        rw [← HC.out] at this
        simpa using this
      have hka : k < a0.size := by omega
      go_wp2_with fail
      go_round
      case rel => exact ⟨k + 1, by omega, by go_num⟩
      case measure => simp [intOf]; omega
    · obtain rfl : k = i := by omega
      by_cases hka : k < a0.size
      · obtain ⟨c, HC, hx, lo, hhi, hs0⟩ := byte_of a0 k hka
        obtain rfl : c = 58 := by rw [HC.out]; exact T.out.at_ hka
        cases n1
        · go_wp2_with fail
          go_quiet (fail)
          go_wp2_with fail
          refine (T.out.none_ _).mono ?_
          rintro e w' ⟨rfl, rfl⟩
          go_wp2_with fail
          refine (chars_awake _).mono ?_
          rintro e w2 ⟨rfl, hb2⟩
          go_wp2_with fail
          refine (T.out.name _).mono ?_
          rintro e w' ⟨rfl, rfl⟩
          go_wp2_with fail
          refine (T.out.ref _).mono ?_
          rintro e w3 ⟨rfl, hb3⟩
          go_wp2_with fail
          refine (T.out.ref1 _).mono ?_
          rintro e w4 ⟨rfl, hb4⟩
          go_wp2_with fail
          refine (T.out.ref1 _).mono ?_
          rintro e w6 ⟨rfl, hb6⟩
          go_wp2_with fail
          go_ret
          exact ⟨rfl, below_four hb2 hb3 hb4 hb6 _ rfl⟩
        · go_wp2_with fail
          go_quiet (fail)
          go_wp2_with fail
          refine (T.out.none_ _).mono ?_
          rintro e w' ⟨rfl, rfl⟩
          go_wp2_with fail
          refine (chars_awake _).mono ?_
          rintro e w2 ⟨rfl, hb2⟩
          go_wp2_with fail
          refine (T.out.name _).mono ?_
          rintro e w' ⟨rfl, rfl⟩
          go_wp2_with fail
          refine (T.out.ref _).mono ?_
          rintro e w3 ⟨rfl, hb3⟩
          go_wp2_with fail
          refine (T.out.ref1 _).mono ?_
          rintro e w4 ⟨rfl, hb4⟩
          go_wp2_with fail
          refine (T.out.ref2 _).mono ?_
          rintro e w5 ⟨rfl, hb5⟩
          go_wp2_with fail
          refine (T.out.ref1 _).mono ?_
          rintro e w6 ⟨rfl, hb6⟩
          go_wp2_with fail
          go_ret
          exact ⟨rfl, below_four hb2 hb3 hb4 (hb5.trans (hb6.mono hb5.size)) _ rfl⟩
      · have hka2 : a0.size ≤ k := by omega
        cases n1
        · go_wp2_with fail
          go_quiet (fail)
          go_wp2_with fail
          refine (T.out.none_ _).mono ?_
          rintro e w' ⟨rfl, rfl⟩
          go_wp2_with fail
          refine (chars_awake _).mono ?_
          rintro e w2 ⟨rfl, hb2⟩
          go_wp2_with fail
          refine (T.out.name _).mono ?_
          rintro e w' ⟨rfl, rfl⟩
          go_wp2_with fail
          refine (T.out.ref _).mono ?_
          rintro e w3 ⟨rfl, hb3⟩
          go_wp2_with fail
          refine (T.out.ref1 _).mono ?_
          rintro e w4 ⟨rfl, hb4⟩
          go_wp2_with fail
          refine (T.out.ref1 _).mono ?_
          rintro e w6 ⟨rfl, hb6⟩
          go_wp2_with fail
          go_ret
          exact ⟨rfl, below_four hb2 hb3 hb4 hb6 _ rfl⟩
        · go_wp2_with fail
          go_quiet (fail)
          go_wp2_with fail
          refine (T.out.none_ _).mono ?_
          rintro e w' ⟨rfl, rfl⟩
          go_wp2_with fail
          refine (chars_awake _).mono ?_
          rintro e w2 ⟨rfl, hb2⟩
          go_wp2_with fail
          refine (T.out.name _).mono ?_
          rintro e w' ⟨rfl, rfl⟩
          go_wp2_with fail
          refine (T.out.ref _).mono ?_
          rintro e w3 ⟨rfl, hb3⟩
          go_wp2_with fail
          refine (T.out.ref1 _).mono ?_
          rintro e w4 ⟨rfl, hb4⟩
          go_wp2_with fail
          refine (T.out.ref2 _).mono ?_
          rintro e w5 ⟨rfl, hb5⟩
          go_wp2_with fail
          refine (T.out.ref1 _).mono ?_
          rintro e w6 ⟨rfl, hb6⟩
          go_wp2_with fail
          go_ret
          exact ⟨rfl, below_four hb2 hb3 hb4 (hb5.trans (hb6.mono hb5.size)) _ rfl⟩
set_option maxHeartbeats 1000000 in
theorem names_4 (a0 a1 : ByteArray) (w : World) (w0 : a0.size ≤ maxLen) (w1 : a1.size ≤ maxLen) (hsa : (a0.size : Int) ≤ 64) (hsb : (a1.size : Int) ≤ 20) :
    Calls Try.prog 6 #[.string a0, .string a1] w fun e w' => e = .returned (.bool true) ∧ Below w.heap.size w w' := by
  unfold maxLen at w0 w1
  have na : a0.size ≤ 64 := by omega
  have nb : a1.size ≤ 20 := by omega
  go_enter Try.func6, Try.ntmps6
  go_wp2_with fail
  go_quiet (fail)
  obtain ⟨X, i, n0, n1, n2, hX, hia, hix, hx85, T⟩ := told a0 a1 na nb
  go_wp2_with fail
  refine (T.out.split _).mono ?_
  rintro e w' ⟨rfl, n, rfl⟩
  go_wp2_with fail
  go_loop [10] (fun v => ∃ k : Nat, k ≤ i ∧ v = .int .i64 k) (fun v => i - (intOf v).toNat)
  case atStart => exact ⟨0, by omega, rfl⟩
  case round =>
    obtain ⟨k, hk, rfl⟩ := hrel
    by_cases hlt : k < i
    · obtain ⟨c, HC, hx, lo, hhi, hs0⟩ := byte_of a0 k (by omega)
      have hc : (c != 58) = true := by
        have := T.out.no k hlt
        rw [← HC.out] at this
        simpa using this
      have hka : k < a0.size := by omega
      go_wp2_with fail
      go_round
      case rel => exact ⟨k + 1, by omega, by go_num⟩
      case measure => simp [intOf]; omega
    · obtain rfl : k = i := by omega
      by_cases hka : k < a0.size
      · obtain ⟨c, HC, hx, lo, hhi, hs0⟩ := byte_of a0 k hka
        obtain rfl : c = 58 := by rw [HC.out]; exact T.out.at_ hka
        cases n1
        · go_wp2_with fail
          go_quiet (fail)
          go_wp2_with fail
          refine (T.out.none_ _).mono ?_
          rintro e w' ⟨rfl, rfl⟩
          go_wp2_with fail
          refine (chars_awake _).mono ?_
          rintro e w2 ⟨rfl, hb2⟩
          go_wp2_with fail
          refine (T.out.name _).mono ?_
          rintro e w' ⟨rfl, rfl⟩
          go_wp2_with fail
          refine (T.out.ref _).mono ?_
          rintro e w3 ⟨rfl, hb3⟩
          go_wp2_with fail
          refine (T.out.ref1 _).mono ?_
          rintro e w4 ⟨rfl, hb4⟩
          go_wp2_with fail
          refine (T.out.ref1 _).mono ?_
          rintro e w6 ⟨rfl, hb6⟩
          go_wp2_with fail
          go_ret
          exact ⟨rfl, below_four hb2 hb3 hb4 hb6 _ rfl⟩
        · go_wp2_with fail
          go_quiet (fail)
          go_wp2_with fail
          refine (T.out.none_ _).mono ?_
          rintro e w' ⟨rfl, rfl⟩
          go_wp2_with fail
          refine (chars_awake _).mono ?_
          rintro e w2 ⟨rfl, hb2⟩
          go_wp2_with fail
          refine (T.out.name _).mono ?_
          rintro e w' ⟨rfl, rfl⟩
          go_wp2_with fail
          refine (T.out.ref _).mono ?_
          rintro e w3 ⟨rfl, hb3⟩
          go_wp2_with fail
          refine (T.out.ref1 _).mono ?_
          rintro e w4 ⟨rfl, hb4⟩
          go_wp2_with fail
          refine (T.out.ref2 _).mono ?_
          rintro e w5 ⟨rfl, hb5⟩
          go_wp2_with fail
          refine (T.out.ref1 _).mono ?_
          rintro e w6 ⟨rfl, hb6⟩
          go_wp2_with fail
          go_ret
          exact ⟨rfl, below_four hb2 hb3 hb4 (hb5.trans (hb6.mono hb5.size)) _ rfl⟩
      · have hka2 : a0.size ≤ k := by omega
        cases n1
        · go_wp2_with fail
          go_quiet (fail)
          go_wp2_with fail
          refine (T.out.none_ _).mono ?_
          rintro e w' ⟨rfl, rfl⟩
          go_wp2_with fail
          refine (chars_awake _).mono ?_
          rintro e w2 ⟨rfl, hb2⟩
          go_wp2_with fail
          refine (T.out.name _).mono ?_
          rintro e w' ⟨rfl, rfl⟩
          go_wp2_with fail
          refine (T.out.ref _).mono ?_
          rintro e w3 ⟨rfl, hb3⟩
          go_wp2_with fail
          refine (T.out.ref1 _).mono ?_
          rintro e w4 ⟨rfl, hb4⟩
          go_wp2_with fail
          refine (T.out.ref1 _).mono ?_
          rintro e w6 ⟨rfl, hb6⟩
          go_wp2_with fail
          go_ret
          exact ⟨rfl, below_four hb2 hb3 hb4 hb6 _ rfl⟩
        · go_wp2_with fail
          go_quiet (fail)
          go_wp2_with fail
          refine (T.out.none_ _).mono ?_
          rintro e w' ⟨rfl, rfl⟩
          go_wp2_with fail
          refine (chars_awake _).mono ?_
          rintro e w2 ⟨rfl, hb2⟩
          go_wp2_with fail
          refine (T.out.name _).mono ?_
          rintro e w' ⟨rfl, rfl⟩
          go_wp2_with fail
          refine (T.out.ref _).mono ?_
          rintro e w3 ⟨rfl, hb3⟩
          go_wp2_with fail
          refine (T.out.ref1 _).mono ?_
          rintro e w4 ⟨rfl, hb4⟩
          go_wp2_with fail
          refine (T.out.ref2 _).mono ?_
          rintro e w5 ⟨rfl, hb5⟩
          go_wp2_with fail
          refine (T.out.ref1 _).mono ?_
          rintro e w6 ⟨rfl, hb6⟩
          go_wp2_with fail
          go_ret
          exact ⟨rfl, below_four hb2 hb3 hb4 (hb5.trans (hb6.mono hb5.size)) _ rfl⟩
theorem charsNames_walk (a0 : ByteArray) (a1 : ByteArray) (w0 : a0.size ≤ maxLen) (w1 : a1.size ≤ maxLen) (w : World) :
    Calls Try.prog 6 #[.string a0, .string a1] w fun e w' => e = .returned (.bool true) ∧ Below w.heap.size w w' := by
  by_cases ha : (64 : Int) < a0.size
  · by_cases hb : (20 : Int) < a1.size
    · exact names_1 a0 a1 w w0 w1 ha hb
    · exact names_2 a0 a1 w w0 w1 ha (by omega)
  · by_cases hb : (20 : Int) < a1.size
    · exact names_3 a0 a1 w w0 w1 (by omega) hb
    · exact names_4 a0 a1 w w0 w1 (by omega) (by omega)
end Go.Proofs.Ytgdkmipkgjkjjaa
