/- The contracts of chars.Trim, chars.Empty and galliardref01.Trim. -/
import Derived.Test.YtgdkmipkgjkjjaaCharsB
namespace Go.Proofs.Ytgdkmipkgjkjjaa
open Go.RowKit

/-- Is a byte a blank? -/
def bl (b : UInt8) : Bool := blankB (b.toNat : Int)
/-- A text without blanks at its end. -/
def rtrim (l : List UInt8) : List UInt8 := (l.reverse.dropWhile bl).reverse
/-- A text without blanks at both ends. -/
def trimL (l : List UInt8) : List UInt8 := rtrim (l.dropWhile bl)
/-- The text of bytes. -/
def baL (l : List UInt8) : ByteArray := ⟨l.toArray⟩
theorem eq_baL {t : ByteArray} {l : List UInt8} (h : t.data.toList = l) : t = baL l := by
  subst h
  unfold baL
  rw [Array.toArray_toList]
theorem baL_data (l : List UInt8) : (baL l).data.toList = l := rfl
theorem baL_size (l : List UInt8) : (baL l).size = l.length := rfl
/-- How long a text in a slot is. -/
def strLen : Value → Nat | .string t => t.size | _ => 0
theorem strLen_string (t : ByteArray) : strLen (.string t) = t.size := rfl
theorem bl_of {l : List UInt8} {k : Nat} (h : k < l.length) {c : Int} (hc : c = Bl l k) : bl (l[k]'h) = blankB c := by
  subst hc
  unfold bl Bl
  rw [List.getD_eq_getElem?_getD, List.getElem?_eq_getElem h]
  rfl
theorem dropWhile_hit {l : List UInt8} (h : 0 < l.length) (hb : bl (l[0]'h) = true) : l.dropWhile bl = (l.drop 1).dropWhile bl := by
  cases l with
  | nil => simp at h
  | cons a l => simp at hb; simp [hb]
theorem dropWhile_miss {l : List UInt8} (h : 0 < l.length) (hb : bl (l[0]'h) = false) : l.dropWhile bl = l := by
  cases l with
  | nil => simp at h
  | cons a l => simp at hb; simp [hb]
theorem rtrim_hit {l : List UInt8} (h : 0 < l.length) (hb : bl (l[l.length - 1]'(by omega)) = true) : rtrim l = rtrim (l.take (l.length - 1)) := by
  have hne : l ≠ [] := by intro e; subst e; simp at h
  obtain ⟨a, b, rfl⟩ : ∃ a b, l = a ++ [b] := ⟨l.dropLast, l.getLast hne, (List.dropLast_concat_getLast hne).symm⟩
  simp at hb
  unfold rtrim
  simp [hb]
theorem rtrim_miss {l : List UInt8} (h : 0 < l.length) (hb : bl (l[l.length - 1]'(by omega)) = false) : rtrim l = l := by
  have hne : l ≠ [] := by intro e; subst e; simp at h
  obtain ⟨a, b, rfl⟩ : ∃ a b, l = a ++ [b] := ⟨l.dropLast, l.getLast hne, (List.dropLast_concat_getLast hne).symm⟩
  simp at hb
  unfold rtrim
  simp [hb]
theorem ret_str' {a b : ByteArray} (h : a = b) : Ending.returned (.string a) = .returned (.string b) := by rw [h]

set_option maxHeartbeats 1000000 in
theorem trim_any (s : ByteArray) (w : World) (hs : s.size ≤ maxLen) :
    Calls Try.prog 26 #[.string s] w fun e w' => e = .returned (.string (baL (trimL s.data.toList))) ∧ w = w' := by
  unfold maxLen at hs
  go_enter Try.func26, Try.ntmps26
  go_wp2_with fail
  go_loop [0] (fun v => ∃ t : ByteArray, v = .string t ∧ t.size ≤ s.size ∧ Hid (s.data.toList.dropWhile bl = t.data.toList.dropWhile bl)) (fun v => strLen v)
  case atStart => exact ⟨s, rfl, by omega, rfl⟩
  case round =>
    obtain ⟨t, rfl, hts, hinv⟩ := hrel
    by_cases hex : ∃ h : 0 < t.data.toList.length, bl (t.data.toList[0]'h) = true
    · obtain ⟨hpos, hb⟩ := hex
      have htp : 0 < t.size := by simpa using hpos
      obtain ⟨c, HC, hx, lo, hi, hs0⟩ := byte_of t 0 htp
      have hbl := blank_any c lo hi
      rw [bl_of hpos HC.out] at hb
      rw [hb] at hbl
      have Hbl := Lib.hid hbl
      have hinv' : Hid (s.data.toList.dropWhile bl = (t.extract 1 t.size).data.toList.dropWhile bl) := by
        show _ = _
        rw [hinv.out, dropWhile_hit hpos (by rw [bl_of hpos HC.out]; exact hb), Lib.extract_data, List.take_of_length_le (by simp)]
      clear hbl hb hinv
      have he := not_isEmpty_of htp
      go_wp2_with (go_at_call 29; refine (Hbl.out _).mono ?_; rintro e w' ⟨rfl, rfl⟩)
      go_round
      case rel => exact ⟨_, rfl, by simp; omega, hinv'⟩
      case measure => rw [strLen_string, strLen_string]; simp; omega
    · have hT : s.data.toList.dropWhile bl = t.data.toList := by
        rw [hinv.out]
        by_cases h0 : 0 < t.data.toList.length
        · exact dropWhile_miss h0 (by cases hb : bl (t.data.toList[0]'h0) with
            | false => rfl
            | true => exact absurd ⟨h0, hb⟩ hex)
        · have e0 : t.data.toList = [] := List.eq_nil_of_length_eq_zero (by omega)
          rw [e0]; rfl
      have HT := Lib.hid hT
      have hcase : t.size = 0 ∨ ∃ c : Int, 0 < t.size ∧ Hid (c = Bl t.data.toList 0) ∧ blankB c = false := by
        by_cases h0 : t.size = 0
        · exact .inl h0
        · right
          have hp : 0 < t.data.toList.length := by simp; omega
          refine ⟨Bl t.data.toList 0, by omega, rfl, ?_⟩
          rw [← bl_of hp rfl]
          cases hb : bl (t.data.toList[0]'hp) with
          | false => rfl
          | true => exact absurd ⟨hp, hb⟩ hex
      clear hT hex hinv
      have hrest : True := trivial
      rcases hcase with h0 | ⟨c, htp, HC, hcb⟩
      · have he := isEmpty_of h0
        clear h0
        go_wp2_with fail
        go_loop [0] (fun v => ∃ t' : ByteArray, v = .string t' ∧ t'.size ≤ s.size ∧ Hid (rtrim t.data.toList = rtrim t'.data.toList)) (fun v => strLen v)
        case atStart => exact ⟨t, rfl, by omega, rfl⟩
        case round =>
          obtain ⟨t', rfl, hts', hinv⟩ := hrel
          by_cases hex : ∃ h : 0 < t'.data.toList.length, bl (t'.data.toList[t'.data.toList.length - 1]'(by omega)) = true
          · obtain ⟨hpos, hb⟩ := hex
            have htp : 0 < t'.size := by simpa using hpos
            obtain ⟨n, hn⟩ : ∃ n, t'.size = n + 1 := ⟨t'.size - 1, by omega⟩
            have hnlt : n < t'.size := by omega
            obtain ⟨d, HD, hx, lo, hi, hs0⟩ := byte_of t' n hnlt
            have hl : t'.data.toList.length - 1 = n := by simp; omega
            have hbl := blank_any d lo hi
            have hbd : bl (t'.data.toList[t'.data.toList.length - 1]'(by omega)) = blankB d := bl_of (by omega) (by rw [hl]; exact HD.out)
            rw [hbd] at hb
            rw [hb] at hbl
            have Hbl := Lib.hid hbl
            have hinv' : Hid (rtrim t.data.toList = rtrim (t'.extract 0 n).data.toList) := by
              show _ = _
              rw [hinv.out, rtrim_hit hpos (by rw [hbd]; exact hb), Lib.extract_data, hl]
              simp
            clear hbl hb hbd hinv hl
            have he := not_isEmpty_of htp
            have hn1 : (t'.size : Int) - 1 = n := by omega
            have hnn : n ≤ t'.size := by omega
            have HN := Lib.hid hn
            clear hn
            go_wp2_with (go_at_call 29; refine (Hbl.out _).mono ?_; rintro e w' ⟨rfl, rfl⟩)
            go_round
            case rel => exact ⟨_, rfl, by simp; omega, hinv'⟩
            case measure => rw [strLen_string, strLen_string]; have := HN.out; simp; omega
          · have hT : rtrim t.data.toList = t'.data.toList := by
              rw [hinv.out]
              by_cases h0 : 0 < t'.data.toList.length
              · exact rtrim_miss h0 (by cases hb : bl (t'.data.toList[t'.data.toList.length - 1]'(by omega)) with
                  | false => rfl
                  | true => exact absurd ⟨h0, hb⟩ hex)
              · have e0 : t'.data.toList = [] := List.eq_nil_of_length_eq_zero (by omega)
                rw [e0]; rfl
            have hfin : t' = baL (trimL s.data.toList) := eq_baL (by rw [← hT]; unfold trimL; rw [HT.out])
            have Hfin := Lib.hid hfin
            by_cases h0 : t'.size = 0
            · have he := isEmpty_of h0
              clear h0 hfin hT hex hinv
              go_wp2_with fail
              go_ret
              exact ⟨ret_str' Hfin.out, rfl⟩
            · have htp : 0 < t'.size := by omega
              obtain ⟨n, hn⟩ : ∃ n, t'.size = n + 1 := ⟨t'.size - 1, by omega⟩
              have hnlt : n < t'.size := by omega
              obtain ⟨d, HD, hx, lo, hi, hs0⟩ := byte_of t' n hnlt
              have hbl := blank_any d lo hi
              have hl : t'.data.toList.length - 1 = n := by simp; omega
              have hp : 0 < t'.data.toList.length := by simpa using htp
              have hbd : bl (t'.data.toList[t'.data.toList.length - 1]'(by omega)) = blankB d := bl_of (by omega) (by rw [hl]; exact HD.out)
              have hbf : blankB d = false := by
                rw [← hbd]
                cases hb : bl (t'.data.toList[t'.data.toList.length - 1]'(by omega)) with
                | false => rfl
                | true => exact absurd ⟨hp, hb⟩ hex
              rw [hbf] at hbl
              have Hbl := Lib.hid hbl
              clear hbl hbd hbf hfin hT hex hinv hl h0
              have he := not_isEmpty_of htp
              have hn1 : (t'.size : Int) - 1 = n := by omega
              have hnn : n ≤ t'.size := by omega
              clear hn
              go_wp2_with (go_at_call 29; refine (Hbl.out _).mono ?_; rintro e w' ⟨rfl, rfl⟩)
              go_ret
              exact ⟨ret_str' Hfin.out, rfl⟩
      · obtain ⟨c', HC', hx, lo, hi, hs0⟩ := byte_of t 0 htp
        obtain rfl : c = c' := HC.out.trans HC'.out.symm
        have hbl := blank_any c lo hi
        rw [hcb] at hbl
        have Hbl := Lib.hid hbl
        clear hbl hcb
        have he := not_isEmpty_of htp
        go_wp2_with (go_at_call 29; refine (Hbl.out _).mono ?_; rintro e w' ⟨rfl, rfl⟩)
        clear he hx
        go_loop [0] (fun v => ∃ t' : ByteArray, v = .string t' ∧ t'.size ≤ s.size ∧ Hid (rtrim t.data.toList = rtrim t'.data.toList)) (fun v => strLen v)
        case atStart => exact ⟨t, rfl, by omega, rfl⟩
        case round =>
          obtain ⟨t', rfl, hts', hinv⟩ := hrel
          by_cases hex : ∃ h : 0 < t'.data.toList.length, bl (t'.data.toList[t'.data.toList.length - 1]'(by omega)) = true
          · obtain ⟨hpos, hb⟩ := hex
            have htp : 0 < t'.size := by simpa using hpos
            obtain ⟨n, hn⟩ : ∃ n, t'.size = n + 1 := ⟨t'.size - 1, by omega⟩
            have hnlt : n < t'.size := by omega
            obtain ⟨d, HD, hx, lo, hi, hs0⟩ := byte_of t' n hnlt
            have hl : t'.data.toList.length - 1 = n := by simp; omega
            have hbl := blank_any d lo hi
            have hbd : bl (t'.data.toList[t'.data.toList.length - 1]'(by omega)) = blankB d := bl_of (by omega) (by rw [hl]; exact HD.out)
            rw [hbd] at hb
            rw [hb] at hbl
            have Hbl := Lib.hid hbl
            have hinv' : Hid (rtrim t.data.toList = rtrim (t'.extract 0 n).data.toList) := by
              show _ = _
              rw [hinv.out, rtrim_hit hpos (by rw [hbd]; exact hb), Lib.extract_data, hl]
              simp
            clear hbl hb hbd hinv hl
            have he := not_isEmpty_of htp
            have hn1 : (t'.size : Int) - 1 = n := by omega
            have hnn : n ≤ t'.size := by omega
            have HN := Lib.hid hn
            clear hn
            go_wp2_with (go_at_call 29; refine (Hbl.out _).mono ?_; rintro e w' ⟨rfl, rfl⟩)
            go_round
            case rel => exact ⟨_, rfl, by simp; omega, hinv'⟩
            case measure => rw [strLen_string, strLen_string]; have := HN.out; simp; omega
          · have hT : rtrim t.data.toList = t'.data.toList := by
              rw [hinv.out]
              by_cases h0 : 0 < t'.data.toList.length
              · exact rtrim_miss h0 (by cases hb : bl (t'.data.toList[t'.data.toList.length - 1]'(by omega)) with
                  | false => rfl
                  | true => exact absurd ⟨h0, hb⟩ hex)
              · have e0 : t'.data.toList = [] := List.eq_nil_of_length_eq_zero (by omega)
                rw [e0]; rfl
            have hfin : t' = baL (trimL s.data.toList) := eq_baL (by rw [← hT]; unfold trimL; rw [HT.out])
            have Hfin := Lib.hid hfin
            by_cases h0 : t'.size = 0
            · have he := isEmpty_of h0
              clear h0 hfin hT hex hinv
              go_wp2_with fail
              go_ret
              exact ⟨ret_str' Hfin.out, rfl⟩
            · have htp : 0 < t'.size := by omega
              obtain ⟨n, hn⟩ : ∃ n, t'.size = n + 1 := ⟨t'.size - 1, by omega⟩
              have hnlt : n < t'.size := by omega
              obtain ⟨d, HD, hx, lo, hi, hs0⟩ := byte_of t' n hnlt
              have hbl := blank_any d lo hi
              have hl : t'.data.toList.length - 1 = n := by simp; omega
              have hp : 0 < t'.data.toList.length := by simpa using htp
              have hbd : bl (t'.data.toList[t'.data.toList.length - 1]'(by omega)) = blankB d := bl_of (by omega) (by rw [hl]; exact HD.out)
              have hbf : blankB d = false := by
                rw [← hbd]
                cases hb : bl (t'.data.toList[t'.data.toList.length - 1]'(by omega)) with
                | false => rfl
                | true => exact absurd ⟨hp, hb⟩ hex
              rw [hbf] at hbl
              have Hbl := Lib.hid hbl
              clear hbl hbd hbf hfin hT hex hinv hl h0
              have he := not_isEmpty_of htp
              have hn1 : (t'.size : Int) - 1 = n := by omega
              have hnn : n ≤ t'.size := by omega
              clear hn
              go_wp2_with (go_at_call 29; refine (Hbl.out _).mono ?_; rintro e w' ⟨rfl, rfl⟩)
              go_ret
              exact ⟨ret_str' Hfin.out, rfl⟩
end Go.Proofs.Ytgdkmipkgjkjjaa
