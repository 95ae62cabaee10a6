/- The contracts of entity's small functions: digit, named, number, One. -/
import Derived.Test.YtgdkmipkgjkjjaaDoorEntP
import Derived.Laws.Rows
namespace Go.Proofs.YtgdkmipkgjkjjaaDoor
open Go.RowKit

/-- What the table of names holds. -/
def namesC : List Value := [.string ⟨#[97, 109, 112]⟩, .int .i64 38, .string ⟨#[108, 116]⟩, .int .i64 60, .string ⟨#[103, 116]⟩, .int .i64 62, .string ⟨#[113, 117, 111, 116]⟩, .int .i64 34, .string ⟨#[97, 112, 111, 115]⟩, .int .i64 39]
/-- The table lies in memory as it was laid. -/
def NamesAt (w : World) : Prop := 0 < w.heap.size ∧ ∀ (j : Nat) (v : Value), namesC[j]? = some v → w.cell? ⟨0, j, none⟩ = some v
theorem NamesAt.below {w w1 : World} (h : NamesAt w) (hb : Below w.heap.size w w1) : NamesAt w1 :=
  ⟨Nat.lt_of_lt_of_le h.1 hb.size, fun j v hv => (hb.cell (p := ⟨0, j, none⟩) h.1).trans (h.2 j v hv)⟩

theorem digit_any (c base : Int) (h0 : 0 ≤ c) (h1 : c < 256) (w : World) :
    Calls Tryd.prog 26 #[.int .u8 c, .int .i64 base] w fun e w' => e = .returned (.int .i64 (digitF c base)) ∧ w = w' := by
  go_enter Tryd.func26, Tryd.ntmps26
  go_wp2
  all_goals
    go_ret
    exact ⟨ret_int (by unfold digitF; (repeat' split) <;> omega), rfl⟩

def namesA : Array Value := #[.string ⟨#[97, 109, 112]⟩, .int .i64 38, .string ⟨#[108, 116]⟩, .int .i64 60, .string ⟨#[103, 116]⟩, .int .i64 62, .string ⟨#[113, 117, 111, 116]⟩, .int .i64 34, .string ⟨#[97, 112, 111, 115]⟩, .int .i64 39]
theorem names_at0 (w : World) : (Instr.index 48 (.agg namesA) (.int .i64 0)).run Tryd.prog w = .ok (.agg #[.string ⟨#[97, 109, 112]⟩, .int .i64 38]) w := by kernel_rfl
theorem names_at1 (w : World) : (Instr.index 48 (.agg namesA) (.int .i64 1)).run Tryd.prog w = .ok (.agg #[.string ⟨#[108, 116]⟩, .int .i64 60]) w := by kernel_rfl
theorem names_at2 (w : World) : (Instr.index 48 (.agg namesA) (.int .i64 2)).run Tryd.prog w = .ok (.agg #[.string ⟨#[103, 116]⟩, .int .i64 62]) w := by kernel_rfl
theorem names_at3 (w : World) : (Instr.index 48 (.agg namesA) (.int .i64 3)).run Tryd.prog w = .ok (.agg #[.string ⟨#[113, 117, 111, 116]⟩, .int .i64 34]) w := by kernel_rfl
theorem names_at4 (w : World) : (Instr.index 48 (.agg namesA) (.int .i64 4)).run Tryd.prog w = .ok (.agg #[.string ⟨#[97, 112, 111, 115]⟩, .int .i64 39]) w := by kernel_rfl
theorem bytes_eq (l : List UInt8) (s : ByteArray) : (l == s.toList) = decide (s.data.toList = l) := by
  rw [Lib.toList_data, Bool.eq_iff_iff, beq_iff_eq, decide_eq_true_eq]
  exact eq_comm

set_option maxRecDepth 100000 in
set_option maxHeartbeats 1000000 in
theorem named_any (s : ByteArray) (w : World) (hN : NamesAt w) :
    Calls Tryd.prog 22 #[.string s] w fun e w' => e = .returned (.int .i64 (namedF s.data.toList)) ∧ Below w.heap.size w w' := by
  have hlt := hN.1
  have c0 := hN.2 0 _ rfl
  have c1 := hN.2 1 _ rfl
  have c2 := hN.2 2 _ rfl
  have c3 := hN.2 3 _ rfl
  have c4 := hN.2 4 _ rfl
  have c5 := hN.2 5 _ rfl
  have c6 := hN.2 6 _ rfl
  have c7 := hN.2 7 _ rfl
  have c8 := hN.2 8 _ rfl
  have c9 := hN.2 9 _ rfl
  clear hN
  go_enter Tryd.func22, Tryd.ntmps22
  go_wp2_with fail
  have i0 := names_at0
  have i1 := names_at1
  have i2 := names_at2
  have i3 := names_at3
  have i4 := names_at4
  unfold namesA at i0 i1 i2 i3 i4
  have q0 := bytes_eq [97, 109, 112] s
  have q1 := bytes_eq [108, 116] s
  have q2 := bytes_eq [103, 116] s
  have q3 := bytes_eq [113, 117, 111, 116] s
  have q4 := bytes_eq [97, 112, 111, 115] s
  clear c0 c1 c2 c3 c4 c5 c6 c7 c8 c9
  refine wp_loop_rounds 6 ?_
  rw [rounds_succ]
  by_cases h0 : s.data.toList = [97, 109, 112]
  · have hfin : namedF s.data.toList = 38 := by unfold namedF; rw [if_pos h0]
    have Hfin := Lib.hid hfin
    rw [decide_eq_true h0] at q0
    clear h0 hfin
    go_wp2_with fail
    go_ret
    exact ⟨ret_int Hfin.out.symm, (Below.refl _ _).alloc (by simp) _⟩
  rw [decide_eq_false h0] at q0
  have H0 := Lib.hid h0
  clear h0
  go_wp2_with fail
  rw [rounds_succ]
  by_cases h1 : s.data.toList = [108, 116]
  · have hfin : namedF s.data.toList = 60 := by unfold namedF; rw [if_neg H0.out, if_pos h1]
    have Hfin := Lib.hid hfin
    rw [decide_eq_true h1] at q1
    clear h1 hfin
    go_wp2_with fail
    go_ret
    exact ⟨ret_int Hfin.out.symm, ((Below.refl _ _).alloc (by simp) _).alloc (by simp) _⟩
  rw [decide_eq_false h1] at q1
  have H1 := Lib.hid h1
  clear h1
  go_wp2_with fail
  rw [rounds_succ]
  by_cases h2 : s.data.toList = [103, 116]
  · have hfin : namedF s.data.toList = 62 := by unfold namedF; rw [if_neg H0.out, if_neg H1.out, if_pos h2]
    have Hfin := Lib.hid hfin
    rw [decide_eq_true h2] at q2
    clear h2 hfin
    go_wp2_with fail
    go_ret
    exact ⟨ret_int Hfin.out.symm, (((Below.refl _ _).alloc (by simp) _).alloc (by simp) _).alloc (by simp; omega) _⟩
  rw [decide_eq_false h2] at q2
  have H2 := Lib.hid h2
  clear h2
  go_wp2_with fail
  rw [rounds_succ]
  by_cases h3 : s.data.toList = [113, 117, 111, 116]
  · have hfin : namedF s.data.toList = 34 := by unfold namedF; rw [if_neg H0.out, if_neg H1.out, if_neg H2.out, if_pos h3]
    have Hfin := Lib.hid hfin
    rw [decide_eq_true h3] at q3
    clear h3 hfin
    go_wp2_with fail
    go_ret
    exact ⟨ret_int Hfin.out.symm, ((((Below.refl _ _).alloc (by simp) _).alloc (by simp) _).alloc (by simp; omega) _).alloc (by simp; omega) _⟩
  rw [decide_eq_false h3] at q3
  have H3 := Lib.hid h3
  clear h3
  go_wp2_with fail
  rw [rounds_succ]
  by_cases h4 : s.data.toList = [97, 112, 111, 115]
  · have hfin : namedF s.data.toList = 39 := by unfold namedF; rw [if_neg H0.out, if_neg H1.out, if_neg H2.out, if_neg H3.out, if_pos h4]
    have Hfin := Lib.hid hfin
    rw [decide_eq_true h4] at q4
    clear h4 hfin
    go_wp2_with fail
    go_ret
    exact ⟨ret_int Hfin.out.symm, (((((Below.refl _ _).alloc (by simp) _).alloc (by simp) _).alloc (by simp; omega) _).alloc (by simp; omega) _).alloc (by simp; omega) _⟩
  rw [decide_eq_false h4] at q4
  have H4 := Lib.hid h4
  clear h4
  go_wp2_with fail
  rw [rounds_succ]
  go_wp2_with fail
  go_ret
  exact ⟨ret_int (by unfold namedF; rw [if_neg H0.out, if_neg H1.out, if_neg H2.out, if_neg H3.out, if_neg H4.out]), (((((Below.refl _ _).alloc (by simp) _).alloc (by simp) _).alloc (by simp; omega) _).alloc (by simp; omega) _).alloc (by simp; omega) _⟩

theorem numberF_x (l : List UInt8) : numberF (120 :: l) = numberB 16 l := by unfold numberF; simp
theorem numberF_d {l : List UInt8} (h : Bl l 0 ≠ 120) : numberF l = numberB 10 l := by
  unfold numberF
  cases l with
  | nil => rfl
  | cons c l =>
    have hc : c ≠ 120 := fun e => h (by rw [e]; unfold Bl; rfl)
    simp [hc]
theorem digitF_bd {c b : Int} : digitF c b ≤ 15 := by unfold digitF; (repeat' split) <;> omega
theorem digitsF_cons (b : Int) (c : UInt8) (l : List UInt8) (n : Int) : digitsF b (c :: l) n = if digitF (c.toNat : Int) b < 0 then none else digitsF b l (n * b + digitF (c.toNat : Int) b) := rfl
theorem digitsF_append (b : Int) : ∀ (l m : List UInt8) (n : Int), digitsF b (l ++ m) n = (digitsF b l n).bind fun x => digitsF b m x
  | [], _, _ => rfl
  | c :: l, m, n => by
    rw [List.cons_append, digitsF_cons, digitsF_cons]
    by_cases h : digitF (c.toNat : Int) b < 0
    · rw [if_pos h, if_pos h]; rfl
    · rw [if_neg h, if_neg h]; exact digitsF_append b l m _
theorem digitsF_bd {b : Int} (hb0 : 0 ≤ b) (hb : b ≤ 16) : ∀ (l : List UInt8) (n m : Int), 0 ≤ n → digitsF b l n = some m → 0 ≤ m ∧ m < (n + 1) * 16 ^ l.length
  | [], n, m, h0, h => by
    injection h with h
    subst h
    simp
    omega
  | c :: l, n, m, h0, h => by
    rw [digitsF_cons] at h
    by_cases hd : digitF (c.toNat : Int) b < 0
    · rw [if_pos hd] at h; cases h
    · rw [if_neg hd] at h
      have h15 := digitF_bd (c := (c.toNat : Int)) (b := b)
      have hnb : 0 ≤ n * b := Int.mul_nonneg h0 hb0
      have hn16 : n * b ≤ n * 16 := Int.mul_le_mul_of_nonneg_left hb h0
      obtain ⟨h1, h2⟩ := digitsF_bd hb0 hb l _ m (by omega) h
      refine ⟨h1, Int.lt_of_lt_of_le h2 ?_⟩
      rw [List.length_cons, Int.pow_succ, Int.mul_comm (16 ^ l.length) 16, ← Int.mul_assoc]
      refine Int.mul_le_mul_of_nonneg_right (by omega) (Int.pow_nonneg (by omega))
theorem digits_next {b : Int} {l : List UInt8} {k : Nat} {n d : Int} (hk : k < l.length) (h : digitsF b (l.take k) 0 = some n) (hd : digitF (Bl l k) b = d) (h0 : 0 ≤ d) : digitsF b (l.take (k + 1)) 0 = some (n * b + d) := by
  have e : ((l[k]'hk).toNat : Int) = Bl l k := by unfold Bl; rw [List.getD_eq_getElem?_getD, List.getElem?_eq_getElem hk]; rfl
  rw [List.take_succ_eq_append_getElem hk, digitsF_append, h]
  show digitsF b [l[k]] n = _
  rw [digitsF_cons, e, hd, if_neg (by omega)]
  rfl
theorem digits_stop {b : Int} {l : List UInt8} {k : Nat} {n : Int} (hk : k < l.length) (h : digitsF b (l.take k) 0 = some n) (hd : digitF (Bl l k) b < 0) : digitsF b l 0 = none := by
  have e : ((l[k]'hk).toNat : Int) = Bl l k := by unfold Bl; rw [List.getD_eq_getElem?_getD, List.getElem?_eq_getElem hk]; rfl
  have hs : l = l.take k ++ l[k] :: l.drop (k + 1) := by
    rw [← List.drop_eq_getElem_cons hk, List.take_append_drop]
  rw [hs, digitsF_append, h]
  show digitsF b (l[k] :: l.drop (k + 1)) n = none
  rw [digitsF_cons, e, if_pos hd]
theorem digits_small {b : Int} (hb0 : 0 ≤ b) (hb : b ≤ 16) {l : List UInt8} {k : Nat} {n : Int} (h8 : k ≤ 8) (h : digitsF b (l.take k) 0 = some n) : 0 ≤ n ∧ n < 4294967296 := by
  obtain ⟨h1, h2⟩ := digitsF_bd hb0 hb _ 0 n (Int.le_refl _) h
  refine ⟨h1, Int.lt_of_lt_of_le h2 ?_⟩
  have hl : (l.take k).length ≤ 8 := by rw [List.length_take]; omega
  have : (16 : Int) ^ (l.take k).length ≤ 16 ^ 8 := by
    have := Nat.pow_le_pow_right (show 0 < 16 by decide) hl
    exact_mod_cast this
  omega
theorem numberB_no {b : Int} {l : List UInt8} (h : l = [] ∨ 8 < l.length) : numberB b l = 0 := by unfold numberB; rw [if_pos h]
theorem numberB_stop {b : Int} {l : List UInt8} (h : digitsF b l 0 = none) : numberB b l = 0 := by
  unfold numberB
  split
  · rfl
  · rw [h]
theorem numberB_some {b : Int} {l : List UInt8} {n : Int} (h : ¬ (l = [] ∨ 8 < l.length)) (hd : digitsF b l 0 = some n) : numberB b l = if letterB n = true then n else 0 := by
  unfold numberB
  rw [if_neg h, hd]

set_option maxHeartbeats 1000000 in
theorem number_any (s : ByteArray) (w : World) (hs : s.size ≤ maxLen) :
    Calls Tryd.prog 21 #[.string s] w fun e w' => e = .returned (.int .i64 (numberF s.data.toList)) ∧ ∃ n, w' = w.drewN n := by
  unfold maxLen at hs
  by_cases hz : s.size = 0
  · have hfin : numberF s.data.toList = 0 := by
      have e : s.data.toList = [] := List.eq_nil_of_length_eq_zero (by simpa using hz)
      rw [e]
      decide +kernel
    have Hfin := Lib.hid hfin
    have he := isEmpty_of hz
    clear hz hfin
    go_enter Tryd.func21, Tryd.ntmps21
    go_wp2_with fail
    go_ret
    exact ⟨ret_int Hfin.out.symm, ⟨0, rfl⟩⟩
  · have hp : 0 < s.size := by omega
    have he := not_isEmpty_of hp
    clear hz
    obtain ⟨c, HC, hx, lo, hi, hs0⟩ := byte_of s 0 hp
    by_cases hcx : c = 120
    · subst hcx
      have HN := Lib.hid (numberF_x s.data.toList.tail)
      have hcons : numberF s.data.toList = numberB 16 (s.extract 1 s.size).data.toList := by
        rw [Lib.extract_data, List.take_of_length_le (by simp)]
        cases hl : s.data.toList with
        | nil => rw [Lib.size_eq, hl] at hp; simp at hp
        | cons a l =>
          have := HC.out
          rw [hl] at this
          unfold Bl at this
          simp at this
          have ha : a = 120 := by
            have : a.toNat = 120 := by omega
            exact UInt8.toNat_inj.1 this
          rw [ha, numberF_x]
          rfl
      have HN := Lib.hid hcons
      have hone : (1 : Int) ≤ s.size := by omega
      clear hcons
      go_enter Tryd.func21, Tryd.ntmps21
      go_wp2_with fail
      go_quiet (fail)
      have hz1 : (s.extract 1 s.size).size = s.size - 1 := by simp
      generalize s.extract 1 s.size = t at *
      have htm : t.size ≤ 9223372036854775807 := by omega
      clear hz1 hx he HC hone
      by_cases htz : t.size = 0
      · have hfin := HN.out.trans (numberB_no (b := 16) (l := t.data.toList) (.inl (List.eq_nil_of_length_eq_zero (by simpa using htz))))
        have Hfin := Lib.hid hfin
        have he := isEmpty_of htz
        clear hfin htz
        go_wp2_with fail
        go_ret
        exact ⟨ret_int Hfin.out.symm, ⟨_, rfl⟩⟩
      · have hpos : 0 < t.size := by omega
        have he := not_isEmpty_of hpos
        clear htz
        by_cases h8 : (8 : Int) < t.size
        · have hfin := HN.out.trans (numberB_no (b := 16) (l := t.data.toList) (.inr (by simp; omega)))
          have Hfin := Lib.hid hfin
          clear hfin
          go_wp2_with fail
          go_ret
          exact ⟨ret_int Hfin.out.symm, ⟨_, rfl⟩⟩
        · go_wp2_with fail
          go_loop [4, 25] (fun nv iv => ∃ (k : Nat) (n : Int), k ≤ t.size ∧ iv = .int .i64 k ∧ nv = .int .i64 n ∧ Hid (digitsF 16 (t.data.toList.take k) 0 = some n)) (fun _ iv => t.size - (intOf iv).toNat)
          case atStart => exact ⟨0, 0, by omega, rfl, rfl, rfl⟩
          case round =>
            obtain ⟨k, n, hk, rfl, rfl, hinv⟩ := hrel
            obtain ⟨n0, n1⟩ := digits_small (b := 16) (by decide) (by decide) (by omega) hinv.out
            by_cases hlt : k < t.size
            · obtain ⟨c, HC, hx, lo, hi, hs0⟩ := byte_of t k hlt
              have hl : k < t.data.toList.length := by simpa using hlt
              have hdg := digit_any c 16 lo hi
              obtain ⟨d, hd⟩ : ∃ d, d = digitF c 16 := ⟨_, rfl⟩
              have h15 := digitF_bd (c := c) (b := 16)
              rw [← hd] at hdg h15
              rw [HC.out] at hd
              have Hdg := Lib.hid hdg
              have Hd := Lib.hid hd
              clear hdg hd
              by_cases hd0 : d < 0
              · have hfin := HN.out.trans (numberB_stop (digits_stop hl hinv.out (by rw [← Hd.out]; exact hd0)))
                have Hfin := Lib.hid hfin
                clear hfin hinv
                go_wp2_with (go_at_call 26; refine (Hdg.out _).mono ?_; rintro e w' ⟨rfl, rfl⟩)
                go_ret
                exact ⟨ret_int Hfin.out.symm, ⟨_, rfl⟩⟩
              · have hinv' := Lib.hid (digits_next hl hinv.out Hd.out.symm (by omega))
                clear hinv
                have hd1 : 0 ≤ d := by omega
                go_wp2_with (go_at_call 26; refine (Hdg.out _).mono ?_; rintro e w' ⟨rfl, rfl⟩)
                go_round
                case rel => exact ⟨k + 1, n * 16 + d, by omega, by go_num, rfl, hinv'⟩
                case measure => simp [intOf]; omega
            · have hl : t.data.toList.take k = t.data.toList := List.take_of_length_le (by simp; omega)
              have hdf := hinv.out
              rw [hl] at hdf
              have hfin := HN.out.trans (numberB_some (b := 16) (by intro e; rcases e with e | e; (rw [Lib.size_eq, e] at hpos; simp at hpos); (simp at e; omega)) hdf)
              have hlet := letter_any n
              cases hb : letterB n
              · rw [hb] at hfin hlet
                have Hfin := Lib.hid hfin
                have Hlet := Lib.hid hlet
                clear hfin hlet hb hdf hl hinv
                go_wp2_with (go_at_call 27; refine (Hlet.out _).mono ?_; rintro e w' ⟨rfl, rfl⟩)
                go_ret
                exact ⟨ret_int (by rw [Hfin.out]; rfl), ⟨_, rfl⟩⟩
              · rw [hb] at hfin hlet
                have Hfin := Lib.hid hfin
                have Hlet := Lib.hid hlet
                clear hfin hlet hb hdf hl hinv
                go_wp2_with (go_at_call 27; refine (Hlet.out _).mono ?_; rintro e w' ⟨rfl, rfl⟩)
                go_ret
                exact ⟨ret_int (by rw [Hfin.out]; rfl), ⟨_, rfl⟩⟩
    · have hN : numberF s.data.toList = numberB 10 s.data.toList := numberF_d (by rw [← HC.out]; exact hcx)
      have HN := Lib.hid hN
      have hcb : (c == 120) = false := by simpa using hcx
      clear hN hcx
      obtain ⟨t, rfl⟩ : ∃ t, t = s := ⟨_, rfl⟩
      have hpos := hp
      go_enter Tryd.func21, Tryd.ntmps21
      by_cases h8 : (8 : Int) < t.size
      · have hfin := HN.out.trans (numberB_no (b := 10) (l := t.data.toList) (.inr (by simp; omega)))
        have Hfin := Lib.hid hfin
        clear hfin
        go_wp2_with fail
        go_ret
        exact ⟨ret_int Hfin.out.symm, ⟨0, rfl⟩⟩
      · go_wp2_with fail
        go_loop [4, 25] (fun nv iv => ∃ (k : Nat) (n : Int), k ≤ t.size ∧ iv = .int .i64 k ∧ nv = .int .i64 n ∧ Hid (digitsF 10 (t.data.toList.take k) 0 = some n)) (fun _ iv => t.size - (intOf iv).toNat)
        case atStart => exact ⟨0, 0, by omega, rfl, rfl, rfl⟩
        case round =>
          obtain ⟨k, n, hk, rfl, rfl, hinv⟩ := hrel
          obtain ⟨n0, n1⟩ := digits_small (b := 10) (by decide) (by decide) (by omega) hinv.out
          by_cases hlt : k < t.size
          · obtain ⟨c, HC, hx, lo, hi, hs0⟩ := byte_of t k hlt
            have hl : k < t.data.toList.length := by simpa using hlt
            have hdg := digit_any c 10 lo hi
            obtain ⟨d, hd⟩ : ∃ d, d = digitF c 10 := ⟨_, rfl⟩
            have h15 := digitF_bd (c := c) (b := 10)
            rw [← hd] at hdg h15
            rw [HC.out] at hd
            have Hdg := Lib.hid hdg
            have Hd := Lib.hid hd
            clear hdg hd
            by_cases hd0 : d < 0
            · have hfin := HN.out.trans (numberB_stop (digits_stop hl hinv.out (by rw [← Hd.out]; exact hd0)))
              have Hfin := Lib.hid hfin
              clear hfin hinv
              go_wp2_with (go_at_call 26; refine (Hdg.out _).mono ?_; rintro e w' ⟨rfl, rfl⟩)
              go_ret
              exact ⟨ret_int Hfin.out.symm, ⟨0, rfl⟩⟩
            · have hinv' := Lib.hid (digits_next hl hinv.out Hd.out.symm (by omega))
              clear hinv
              have hd1 : 0 ≤ d := by omega
              go_wp2_with (go_at_call 26; refine (Hdg.out _).mono ?_; rintro e w' ⟨rfl, rfl⟩)
              go_round
              case rel => exact ⟨k + 1, n * 10 + d, by omega, by go_num, rfl, hinv'⟩
              case measure => simp [intOf]; omega
          · have hl : t.data.toList.take k = t.data.toList := List.take_of_length_le (by simp; omega)
            have hdf := hinv.out
            rw [hl] at hdf
            have hfin := HN.out.trans (numberB_some (b := 10) (by intro e; rcases e with e | e; (rw [Lib.size_eq, e] at hpos; simp at hpos); (simp at e; omega)) hdf)
            have hlet := letter_any n
            cases hb : letterB n
            · rw [hb] at hfin hlet
              have Hfin := Lib.hid hfin
              have Hlet := Lib.hid hlet
              clear hfin hlet hb hdf hl hinv
              go_wp2_with (go_at_call 27; refine (Hlet.out _).mono ?_; rintro e w' ⟨rfl, rfl⟩)
              go_ret
              exact ⟨ret_int (by rw [Hfin.out]; rfl), ⟨0, rfl⟩⟩
            · rw [hb] at hfin hlet
              have Hfin := Lib.hid hfin
              have Hlet := Lib.hid hlet
              clear hfin hlet hb hdf hl hinv
              go_wp2_with (go_at_call 27; refine (Hlet.out _).mono ?_; rintro e w' ⟨rfl, rfl⟩)
              go_ret
              exact ⟨ret_int (by rw [Hfin.out]; rfl), ⟨0, rfl⟩⟩

end Go.Proofs.YtgdkmipkgjkjjaaDoor
