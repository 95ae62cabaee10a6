/- The contracts of entity.One, entity.Close and galliardref01.Close. -/
import Derived.Test.YtgdkmipkgjkjjaaDoorEntC
import Derived.Test.YtgdkmipkgjkjjaaDoorEntN
import Derived.Test.YtgdkmipkgjkjjaaDoorEntB
import Derived.Test.YtgdkmipkgjkjjaaDoorEntS
namespace Go.Proofs.YtgdkmipkgjkjjaaDoor
open Go.RowKit

theorem oneF_hash (l : List UInt8) : oneF (35 :: l) = numberF l := by unfold oneF; simp
theorem oneF_name {l : List UInt8} (h : Bl l 0 ≠ 35) : oneF l = namedF l := by
  unfold oneF
  cases l with
  | nil => rfl
  | cons c l =>
    have hc : c ≠ 35 := fun e => h (by rw [e]; unfold Bl; rfl)
    simp [hc]
theorem below_drew_of {w w1 : World} (h : ∃ n, w1 = w.drewN n) : Below w.heap.size w w1 := by
  obtain ⟨n, rfl⟩ := h
  exact ⟨rfl, rfl, rfl, Nat.le_refl _, fun _ _ => rfl⟩

theorem one_any (s : ByteArray) (w : World) (hs : s.size ≤ maxLen) (hN : NamesAt w) :
    Calls Tryd.prog 13 #[.string s] w fun e w' => e = .returned (.int .i64 (oneF s.data.toList)) ∧ Below w.heap.size w w' := by
  have Hs := Lib.hid hs
  unfold maxLen at hs
  have HN := Lib.hid hN
  clear hN
  by_cases hz : s.size = 0
  · have he := isEmpty_of hz
    have hfin : oneF s.data.toList = namedF s.data.toList := by
      have e : s.data.toList = [] := List.eq_nil_of_length_eq_zero (by simpa using hz)
      rw [e]
      unfold oneF
      rfl
    have hc := named_any s w HN.out
    rw [← hfin] at hc
    have Hc := Lib.hid hc
    clear hz hfin hc
    go_enter Tryd.func13, Tryd.ntmps13
    go_wp2_with fail
    refine Hc.out.mono ?_
    rintro e w1 ⟨rfl, hb1⟩
    go_wp2_with fail
    go_ret
    exact ⟨rfl, hb1⟩
  · have hp : 0 < s.size := by omega
    have he := not_isEmpty_of hp
    clear hz
    obtain ⟨c, HC, hx, lo, hi, hs0⟩ := byte_of s 0 hp
    by_cases hcx : c = 35
    · subst hcx
      have hcons : oneF s.data.toList = numberF (s.extract 1 s.size).data.toList := by
        rw [Lib.extract_data, List.take_of_length_le (by simp)]
        cases hl : s.data.toList with
        | nil => rw [Lib.size_eq, hl] at hp; simp at hp
        | cons a l =>
          have := HC.out
          rw [hl] at this
          unfold Bl at this
          simp at this
          have ha : a = 35 := by
            have : a.toNat = 35 := by omega
            exact UInt8.toNat_inj.1 this
          rw [ha, oneF_hash]
          rfl
      have hc := fun w => number_any (s.extract 1 s.size) w (by have := Hs.out; simp; omega)
      rw [← hcons] at hc
      have Hc := Lib.hid hc
      have hone : (1 : Int) ≤ s.size := by omega
      clear hcons hc
      go_enter Tryd.func13, Tryd.ntmps13
      go_wp2_with fail
      refine (Hc.out _).mono ?_
      rintro e w1 ⟨rfl, hw⟩
      have Hb := Lib.hid (below_drew_of hw)
      clear hw
      go_wp2_with fail
      go_ret
      exact ⟨rfl, Hb.out⟩
    · have hfin : oneF s.data.toList = namedF s.data.toList := oneF_name (by rw [← HC.out]; exact hcx)
      have hc := named_any s w HN.out
      rw [← hfin] at hc
      have Hc := Lib.hid hc
      have hcb : (c == 35) = false := by simpa using hcx
      clear hfin hc hcx
      go_enter Tryd.func13, Tryd.ntmps13
      go_wp2_with fail
      refine Hc.out.mono ?_
      rintro e w1 ⟨rfl, hb1⟩
      go_wp2_with fail
      go_ret
      exact ⟨rfl, hb1⟩

theorem closeF_snoc (l : List UInt8) (k : Nat) (h : k < l.length) : closeF (l.take (k + 1)) = closeF (l.take k) ++ escF l[k] := by
  unfold closeF
  rw [List.take_succ_eq_append_getElem h, List.flatMap_append]
  simp
theorem esc_of {l : List UInt8} {k : Nat} (h : k < l.length) {c : Int} (hc : c = Bl l k) (q : UInt8) (hq : c = (q.toNat : Int)) : l[k]'h = q := by
  have e : ((l[k]'h).toNat : Int) = Bl l k := by unfold Bl; rw [List.getD_eq_getElem?_getD, List.getElem?_eq_getElem h]; rfl
  have : (l[k]'h).toNat = q.toNat := by omega
  exact UInt8.toNat_inj.1 this
theorem byteCells_append (a b : List UInt8) : Lib.byteCells (a ++ b) = Lib.byteCells a ++ Lib.byteCells b := by unfold Lib.byteCells; simp
theorem close_len (l : List UInt8) (k : Nat) : (closeF (l.take k)).length ≤ 6 * k := by
  have h1 := closeF_len (l.take k)
  have h2 : (l.take k).length ≤ k := List.length_take_le _ _
  omega
/-- How many bytes are written for a letter, and which: by its number. -/
theorem esc_other {l : List UInt8} {k : Nat} (h : k < l.length) {c : Int} (hc : c = Bl l k) (h1 : c ≠ 38) (h2 : c ≠ 60) (h3 : c ≠ 62) (h4 : c ≠ 34) (h5 : c ≠ 9) (h6 : c ≠ 10) (h7 : c ≠ 13) : escF (l[k]'h) = [l[k]'h] := by
  have e : ((l[k]'h).toNat : Int) = c := by rw [hc]; unfold Bl; rw [List.getD_eq_getElem?_getD, List.getElem?_eq_getElem h]; rfl
  have ne : ∀ q : UInt8, c ≠ (q.toNat : Int) → l[k]'h ≠ q := fun q hq e2 => hq (by rw [← e, e2])
  unfold escF
  rw [if_neg (ne 38 h1), if_neg (ne 60 h2), if_neg (ne 62 h3), if_neg (ne 34 h4), if_neg (ne 9 h5), if_neg (ne 10 h6), if_neg (ne 13 h7)]

def InClose (w : World) (s : ByteArray) (k : Nat) (wr : World) : Prop := Lib.IsBuilder 33 5 w.heap.size w.heap.size (Lib.byteCells (closeF (s.data.toList.take k))) wr ∧ Below w.heap.size w wr

--A
set_option maxHeartbeats 2000000 in
theorem close_any (s : ByteArray) (w : World) (hs : s.size ≤ 1000000) :
    Calls Tryd.prog 7 #[.string s] w fun e w' => e = .returned (.string (baL (closeF s.data.toList))) ∧ Below w.heap.size w w' := by
  go_enter Tryd.func7, Tryd.ntmps7
  go_wp2_with fail
  go_loopw [7] (fun iv wr => ∃ k : Nat, k ≤ s.size ∧ iv = .int .i64 k ∧ InClose w s k wr) (fun iv _ => s.size - (intOf iv).toNat)
  case atStart => exact ⟨0, by omega, rfl, .inl ⟨Nat.le_refl _, _, heap_alloc_new w _, World.ownsRow_nil _ _ _ _, by simp [Value.ownBlock]⟩, (Below.refl _ _).alloc (Nat.le_refl _) _⟩
  case round =>
    obtain ⟨k, hk, rfl, hI, hB⟩ := hrel
    have hsz := hB.size
    have HI := Lib.hid hI
    have HB := Lib.hid hB
    clear hI hB
    by_cases hlt : k < s.size
    · obtain ⟨c, HC, hx, lo, hi, hs0⟩ := byte_of s k hlt
      have hl : k < s.data.toList.length := by simpa using hlt
      have hlen := close_len s.data.toList k
      have hsn := closeF_snoc s.data.toList k hl
      have HSN := Lib.hid hsn
      clear hsn
      by_cases h38 : c = 38
      · have hstep : Lib.byteCells (closeF (s.data.toList.take (k + 1))) = Lib.byteCells (closeF (s.data.toList.take k)) ++ Lib.strCells ⟨#[38, 97, 109, 112, 59]⟩ := by
          rw [HSN.out, esc_of hl HC.out 38 h38, byteCells_append]
          rfl
        have Hstep := Lib.hid hstep
        subst h38
        clear hstep
        go_wp2_with fail
        refine (writeString_any w.heap.size w.heap.size _ _ _ HI.out (by rw [Lib.byteCells_length]; show _ + 5 ≤ _; omega) hsz).mono ?_
        rintro e w2 ⟨rfl, hI2, hB2⟩
        have HI2 := Lib.hid hI2
        have HB2 := Lib.hid hB2
        clear hI2 hB2
        go_wp2_with fail
        go_roundw
        case rel => exact ⟨k + 1, by omega, by go_num, by rw [Hstep.out]; exact .inr HI2.out, HB.out.trans HB2.out⟩
        case measure => simp [intOf]; omega
      have b38 : (c == 38) = false := by simpa using h38
      by_cases h60 : c = 60
      · have hstep : Lib.byteCells (closeF (s.data.toList.take (k + 1))) = Lib.byteCells (closeF (s.data.toList.take k)) ++ Lib.strCells ⟨#[38, 108, 116, 59]⟩ := by
          rw [HSN.out, esc_of hl HC.out 60 h60, byteCells_append]
          rfl
        have Hstep := Lib.hid hstep
        subst h60
        clear hstep
        go_wp2_with fail
        refine (writeString_any w.heap.size w.heap.size _ _ _ HI.out (by rw [Lib.byteCells_length]; show _ + 4 ≤ _; omega) hsz).mono ?_
        rintro e w2 ⟨rfl, hI2, hB2⟩
        have HI2 := Lib.hid hI2
        have HB2 := Lib.hid hB2
        clear hI2 hB2
        go_wp2_with fail
        go_roundw
        case rel => exact ⟨k + 1, by omega, by go_num, by rw [Hstep.out]; exact .inr HI2.out, HB.out.trans HB2.out⟩
        case measure => simp [intOf]; omega
      have b60 : (c == 60) = false := by simpa using h60
      by_cases h62 : c = 62
      · have hstep : Lib.byteCells (closeF (s.data.toList.take (k + 1))) = Lib.byteCells (closeF (s.data.toList.take k)) ++ Lib.strCells ⟨#[38, 103, 116, 59]⟩ := by
          rw [HSN.out, esc_of hl HC.out 62 h62, byteCells_append]
          rfl
        have Hstep := Lib.hid hstep
        subst h62
        clear hstep
        go_wp2_with fail
        refine (writeString_any w.heap.size w.heap.size _ _ _ HI.out (by rw [Lib.byteCells_length]; show _ + 4 ≤ _; omega) hsz).mono ?_
        rintro e w2 ⟨rfl, hI2, hB2⟩
        have HI2 := Lib.hid hI2
        have HB2 := Lib.hid hB2
        clear hI2 hB2
        go_wp2_with fail
        go_roundw
        case rel => exact ⟨k + 1, by omega, by go_num, by rw [Hstep.out]; exact .inr HI2.out, HB.out.trans HB2.out⟩
        case measure => simp [intOf]; omega
      have b62 : (c == 62) = false := by simpa using h62
      by_cases h34 : c = 34
      · have hstep : Lib.byteCells (closeF (s.data.toList.take (k + 1))) = Lib.byteCells (closeF (s.data.toList.take k)) ++ Lib.strCells ⟨#[38, 113, 117, 111, 116, 59]⟩ := by
          rw [HSN.out, esc_of hl HC.out 34 h34, byteCells_append]
          rfl
        have Hstep := Lib.hid hstep
        subst h34
        clear hstep
        go_wp2_with fail
        refine (writeString_any w.heap.size w.heap.size _ _ _ HI.out (by rw [Lib.byteCells_length]; show _ + 6 ≤ _; omega) hsz).mono ?_
        rintro e w2 ⟨rfl, hI2, hB2⟩
        have HI2 := Lib.hid hI2
        have HB2 := Lib.hid hB2
        clear hI2 hB2
        go_wp2_with fail
        go_roundw
        case rel => exact ⟨k + 1, by omega, by go_num, by rw [Hstep.out]; exact .inr HI2.out, HB.out.trans HB2.out⟩
        case measure => simp [intOf]; omega
      have b34 : (c == 34) = false := by simpa using h34
      by_cases h9 : c = 9
      · have hstep : Lib.byteCells (closeF (s.data.toList.take (k + 1))) = Lib.byteCells (closeF (s.data.toList.take k)) ++ Lib.strCells ⟨#[38, 35, 57, 59]⟩ := by
          rw [HSN.out, esc_of hl HC.out 9 h9, byteCells_append]
          rfl
        have Hstep := Lib.hid hstep
        subst h9
        clear hstep
        go_wp2_with fail
        refine (writeString_any w.heap.size w.heap.size _ _ _ HI.out (by rw [Lib.byteCells_length]; show _ + 4 ≤ _; omega) hsz).mono ?_
        rintro e w2 ⟨rfl, hI2, hB2⟩
        have HI2 := Lib.hid hI2
        have HB2 := Lib.hid hB2
        clear hI2 hB2
        go_wp2_with fail
        go_roundw
        case rel => exact ⟨k + 1, by omega, by go_num, by rw [Hstep.out]; exact .inr HI2.out, HB.out.trans HB2.out⟩
        case measure => simp [intOf]; omega
      have b9 : (c == 9) = false := by simpa using h9
      by_cases h10 : c = 10
      · have hstep : Lib.byteCells (closeF (s.data.toList.take (k + 1))) = Lib.byteCells (closeF (s.data.toList.take k)) ++ Lib.strCells ⟨#[38, 35, 49, 48, 59]⟩ := by
          rw [HSN.out, esc_of hl HC.out 10 h10, byteCells_append]
          rfl
        have Hstep := Lib.hid hstep
        subst h10
        clear hstep
        go_wp2_with fail
        refine (writeString_any w.heap.size w.heap.size _ _ _ HI.out (by rw [Lib.byteCells_length]; show _ + 5 ≤ _; omega) hsz).mono ?_
        rintro e w2 ⟨rfl, hI2, hB2⟩
        have HI2 := Lib.hid hI2
        have HB2 := Lib.hid hB2
        clear hI2 hB2
        go_wp2_with fail
        go_roundw
        case rel => exact ⟨k + 1, by omega, by go_num, by rw [Hstep.out]; exact .inr HI2.out, HB.out.trans HB2.out⟩
        case measure => simp [intOf]; omega
      have b10 : (c == 10) = false := by simpa using h10
      by_cases h13 : c = 13
      · have hstep : Lib.byteCells (closeF (s.data.toList.take (k + 1))) = Lib.byteCells (closeF (s.data.toList.take k)) ++ Lib.strCells ⟨#[38, 35, 49, 51, 59]⟩ := by
          rw [HSN.out, esc_of hl HC.out 13 h13, byteCells_append]
          rfl
        have Hstep := Lib.hid hstep
        subst h13
        clear hstep
        go_wp2_with fail
        refine (writeString_any w.heap.size w.heap.size _ _ _ HI.out (by rw [Lib.byteCells_length]; show _ + 5 ≤ _; omega) hsz).mono ?_
        rintro e w2 ⟨rfl, hI2, hB2⟩
        have HI2 := Lib.hid hI2
        have HB2 := Lib.hid hB2
        clear hI2 hB2
        go_wp2_with fail
        go_roundw
        case rel => exact ⟨k + 1, by omega, by go_num, by rw [Hstep.out]; exact .inr HI2.out, HB.out.trans HB2.out⟩
        case measure => simp [intOf]; omega
      have b13 : (c == 13) = false := by simpa using h13
      have hoth := esc_other hl HC.out h38 h60 h62 h34 h9 h10 h13
      have hstep : Lib.byteCells (closeF (s.data.toList.take (k + 1))) = Lib.byteCells (closeF (s.data.toList.take k)) ++ [.int .u8 c] := by
        rw [HSN.out, hoth, byteCells_append]
        have e : ((s.data.toList[k]'hl).toNat : Int) = c := by rw [HC.out]; unfold Bl; rw [List.getD_eq_getElem?_getD, List.getElem?_eq_getElem hl]; rfl
        show _ ++ [Value.int .u8 ((s.data.toList[k]'hl).toNat : Int)] = _
        rw [e]
      have Hstep := Lib.hid hstep
      clear hstep hoth h38 h60 h62 h34 h9 h10 h13
      go_wp2_with fail
      refine (writeByte_any w.heap.size w.heap.size _ _ _ HI.out (by rw [Lib.byteCells_length]; omega) hsz).mono ?_
      rintro e w2 ⟨rfl, hI2, hB2⟩
      have HI2 := Lib.hid hI2
      have HB2 := Lib.hid hB2
      clear hI2 hB2
      go_wp2_with fail
      go_roundw
      case rel => exact ⟨k + 1, by omega, by go_num, by rw [Hstep.out]; exact .inr HI2.out, HB.out.trans HB2.out⟩
      case measure => simp [intOf]; omega
    · have hfin : s.data.toList.take k = s.data.toList := List.take_of_length_le (by simp; omega)
      have hI := HI.out
      rw [hfin] at hI
      have HI2 := Lib.hid hI
      clear hfin hI
      go_wp2_with fail
      refine (Tryd.Builder_String_any w.heap.size w.heap.size _ _ HI2.out hsz).mono ?_
      rintro e w2 ⟨rfl, hB2⟩
      have HB2 := Lib.hid hB2
      clear hB2
      go_wp2_with fail
      go_ret
      exact ⟨rfl, HB.out.trans HB2.out⟩

theorem ba_append (l m : List UInt8) : baL l ++ baL m = baL (l ++ m) := by
  apply ByteArray.ext
  simp [baL, ByteArray.data_append]
set_option maxHeartbeats 2000000 in
theorem rclose_any (s : ByteArray) (w : World) (hs : s.size ≤ 1000000) :
    Calls Tryd.prog 9 #[.string s] w fun e w' => e = .returned (.string (baL (closeF s.data.toList))) ∧ w = w' := by
  go_enter Tryd.func9, Tryd.ntmps9
  go_wp2_with fail
  go_loop [3, 4] (fun ov iv => ∃ k : Nat, k ≤ s.size ∧ iv = .int .i64 k ∧ ∃ t : ByteArray, ov = .string t ∧ t.size ≤ 6000000 ∧ Hid (t = baL (closeF (s.data.toList.take k)))) (fun _ iv => s.size - (intOf iv).toNat)
  case atStart => exact ⟨0, by omega, rfl, ⟨#[]⟩, rfl, by decide, rfl⟩
  case round =>
    obtain ⟨k, hk, rfl, t, rfl, hts, HT⟩ := hrel
    by_cases hlt : k < s.size
    · obtain ⟨c, HC, hx, lo, hi, hs0⟩ := byte_of s k hlt
      have hl : k < s.data.toList.length := by simpa using hlt
      have hlen := close_len s.data.toList (k + 1)
      have hsn := closeF_snoc s.data.toList k hl
      have HSN := Lib.hid hsn
      clear hsn
      by_cases h38 : c = 38
      · have hstep : t ++ ⟨#[38, 97, 109, 112, 59]⟩ = baL (closeF (s.data.toList.take (k + 1))) := by
          rw [HSN.out, esc_of hl HC.out 38 h38, HT.out, ← ba_append]
          rfl
        have hts2 : (t ++ ⟨#[38, 97, 109, 112, 59]⟩ : ByteArray).size ≤ 6000000 := by rw [hstep, baL_size]; omega
        have Hstep := Lib.hid hstep
        have Hts2 := Lib.hid hts2
        subst h38
        clear hstep hts2
        go_wp2_with fail
        go_round
        case rel => exact ⟨k + 1, by omega, by go_num, _, rfl, Hts2.out, Hstep⟩
        case measure => simp [intOf]; omega
      have b38 : (c == 38) = false := by simpa using h38
      by_cases h60 : c = 60
      · have hstep : t ++ ⟨#[38, 108, 116, 59]⟩ = baL (closeF (s.data.toList.take (k + 1))) := by
          rw [HSN.out, esc_of hl HC.out 60 h60, HT.out, ← ba_append]
          rfl
        have hts2 : (t ++ ⟨#[38, 108, 116, 59]⟩ : ByteArray).size ≤ 6000000 := by rw [hstep, baL_size]; omega
        have Hstep := Lib.hid hstep
        have Hts2 := Lib.hid hts2
        subst h60
        clear hstep hts2
        go_wp2_with fail
        go_round
        case rel => exact ⟨k + 1, by omega, by go_num, _, rfl, Hts2.out, Hstep⟩
        case measure => simp [intOf]; omega
      have b60 : (c == 60) = false := by simpa using h60
      by_cases h62 : c = 62
      · have hstep : t ++ ⟨#[38, 103, 116, 59]⟩ = baL (closeF (s.data.toList.take (k + 1))) := by
          rw [HSN.out, esc_of hl HC.out 62 h62, HT.out, ← ba_append]
          rfl
        have hts2 : (t ++ ⟨#[38, 103, 116, 59]⟩ : ByteArray).size ≤ 6000000 := by rw [hstep, baL_size]; omega
        have Hstep := Lib.hid hstep
        have Hts2 := Lib.hid hts2
        subst h62
        clear hstep hts2
        go_wp2_with fail
        go_round
        case rel => exact ⟨k + 1, by omega, by go_num, _, rfl, Hts2.out, Hstep⟩
        case measure => simp [intOf]; omega
      have b62 : (c == 62) = false := by simpa using h62
      by_cases h34 : c = 34
      · have hstep : t ++ ⟨#[38, 113, 117, 111, 116, 59]⟩ = baL (closeF (s.data.toList.take (k + 1))) := by
          rw [HSN.out, esc_of hl HC.out 34 h34, HT.out, ← ba_append]
          rfl
        have hts2 : (t ++ ⟨#[38, 113, 117, 111, 116, 59]⟩ : ByteArray).size ≤ 6000000 := by rw [hstep, baL_size]; omega
        have Hstep := Lib.hid hstep
        have Hts2 := Lib.hid hts2
        subst h34
        clear hstep hts2
        go_wp2_with fail
        go_round
        case rel => exact ⟨k + 1, by omega, by go_num, _, rfl, Hts2.out, Hstep⟩
        case measure => simp [intOf]; omega
      have b34 : (c == 34) = false := by simpa using h34
      by_cases h9 : c = 9
      · have hstep : t ++ ⟨#[38, 35, 57, 59]⟩ = baL (closeF (s.data.toList.take (k + 1))) := by
          rw [HSN.out, esc_of hl HC.out 9 h9, HT.out, ← ba_append]
          rfl
        have hts2 : (t ++ ⟨#[38, 35, 57, 59]⟩ : ByteArray).size ≤ 6000000 := by rw [hstep, baL_size]; omega
        have Hstep := Lib.hid hstep
        have Hts2 := Lib.hid hts2
        subst h9
        clear hstep hts2
        go_wp2_with fail
        go_round
        case rel => exact ⟨k + 1, by omega, by go_num, _, rfl, Hts2.out, Hstep⟩
        case measure => simp [intOf]; omega
      have b9 : (c == 9) = false := by simpa using h9
      by_cases h10 : c = 10
      · have hstep : t ++ ⟨#[38, 35, 49, 48, 59]⟩ = baL (closeF (s.data.toList.take (k + 1))) := by
          rw [HSN.out, esc_of hl HC.out 10 h10, HT.out, ← ba_append]
          rfl
        have hts2 : (t ++ ⟨#[38, 35, 49, 48, 59]⟩ : ByteArray).size ≤ 6000000 := by rw [hstep, baL_size]; omega
        have Hstep := Lib.hid hstep
        have Hts2 := Lib.hid hts2
        subst h10
        clear hstep hts2
        go_wp2_with fail
        go_round
        case rel => exact ⟨k + 1, by omega, by go_num, _, rfl, Hts2.out, Hstep⟩
        case measure => simp [intOf]; omega
      have b10 : (c == 10) = false := by simpa using h10
      by_cases h13 : c = 13
      · have hstep : t ++ ⟨#[38, 35, 49, 51, 59]⟩ = baL (closeF (s.data.toList.take (k + 1))) := by
          rw [HSN.out, esc_of hl HC.out 13 h13, HT.out, ← ba_append]
          rfl
        have hts2 : (t ++ ⟨#[38, 35, 49, 51, 59]⟩ : ByteArray).size ≤ 6000000 := by rw [hstep, baL_size]; omega
        have Hstep := Lib.hid hstep
        have Hts2 := Lib.hid hts2
        subst h13
        clear hstep hts2
        go_wp2_with fail
        go_round
        case rel => exact ⟨k + 1, by omega, by go_num, _, rfl, Hts2.out, Hstep⟩
        case measure => simp [intOf]; omega
      have b13 : (c == 13) = false := by simpa using h13
      have hoth := esc_other hl HC.out h38 h60 h62 h34 h9 h10 h13
      have hstep : t ++ s.extract k (k + 1) = baL (closeF (s.data.toList.take (k + 1))) := by
        rw [HSN.out, hoth, HT.out, ← ba_append]
        congr 1
        apply eq_baL
        rw [Lib.extract_data, List.drop_eq_getElem_cons hl, show k + 1 - k = 1 by omega]
        simp
      have hts2 : (t ++ s.extract k (k + 1) : ByteArray).size ≤ 6000000 := by rw [hstep, baL_size]; omega
      have Hstep := Lib.hid hstep
      have Hts2 := Lib.hid hts2
      have hk1 : k + 1 ≤ s.size := by omega
      clear hstep hts2 hoth h38 h60 h62 h34 h9 h10 h13
      go_wp2_with fail
      go_round
      case rel => exact ⟨k + 1, by omega, by go_num, _, rfl, Hts2.out, Hstep⟩
      case measure => simp [intOf]; omega
    · have hfin : s.data.toList.take k = s.data.toList := List.take_of_length_le (by simp; omega)
      have hT := HT.out
      rw [hfin] at hT
      have HT2 := Lib.hid hT
      clear hfin hT HT
      go_wp2_with fail
      go_ret
      exact ⟨ret_str HT2.out, rfl⟩
--B

end Go.Proofs.YtgdkmipkgjkjjaaDoor
