/- The walk of the law EntityAny. -/
import Derived.Test.YtgdkmipkgjkjjaaDoorEntG
namespace Go.Proofs.YtgdkmipkgjkjjaaDoor
open Go.RowKit

theorem index_no : ∀ (l : List UInt8) (c : UInt8), (∀ x ∈ l, x ≠ c) → Lib.indexByte l c = -1
  | [], _, _ => rfl
  | b :: l, c, h => by
    have hb : (b == c) = false := by simpa using h b (by simp)
    have ih := index_no l c (fun x hx => h x (by simp [hx]))
    unfold Lib.indexByte
    rw [hb, ih]
    rfl
theorem index_hit (l : List UInt8) (m : Nat) (hm : m < l.length) (h : ∀ x, x < m → Bl l x ≠ 59) (h1 : Bl l m = 59) : Lib.indexByte l 59 = m := by
  have e : l = l.take m ++ l[m] :: l.drop (m + 1) := by rw [← List.drop_eq_getElem_cons hm, List.take_append_drop]
  have hq : l[m] = 59 := by
    have : ((l[m]'hm).toNat : Int) = Bl l m := by unfold Bl; rw [List.getD_eq_getElem?_getD, List.getElem?_eq_getElem hm]; rfl
    have h2 : (l[m]'hm).toNat = 59 := by omega
    exact UInt8.toNat_inj.1 h2
  have hf := index_free (l.take m) (l.drop (m + 1)) (fun c hc => by
    obtain ⟨x, hx, hxe⟩ := List.mem_iff_getElem.1 hc
    rw [List.length_take] at hx
    rw [List.getElem_take] at hxe
    intro e59
    refine h x (by omega) ?_
    unfold Bl
    rw [List.getD_eq_getElem?_getD, List.getElem?_eq_getElem (by omega)]
    simp [hxe, e59])
  rw [hq] at e
  rw [e, hf, List.length_take]
  omega
theorem index_out (l : List UInt8) (h : ∀ x, x < l.length → Bl l x ≠ 59) : Lib.indexByte l 59 = -1 := by
  refine index_no l 59 (fun c hc e => ?_)
  obtain ⟨x, hx, hxe⟩ := List.mem_iff_getElem.1 hc
  refine h x hx ?_
  unfold Bl
  rw [List.getD_eq_getElem?_getD, List.getElem?_eq_getElem hx]
  simp [hxe, e]
/-- Where the law's own reading stands: so far all is well, or the first place that is not is found. -/
def InAny (w : World) (t : ByteArray) (ov bv iv : Value) (wr : World) : Prop :=
  ∃ (k : Nat) (O : ByteArray), iv = .int .i64 k ∧ ov = .string O ∧ O.size ≤ 200 ∧ Below w.heap.size w wr ∧
    ((bv = .int .i64 (-1) ∧ k ≤ t.size ∧ Hid (∃ out : List UInt8, out.length ≤ 4 * k ∧ O = baL out ∧ openF t.data.toList = openG (t.data.toList.drop k) k out)) ∨
      (∃ b : Nat, bv = .int .i64 b ∧ k ≤ t.size + 1 ∧ Hid (openF t.data.toList = ([], (b : Int)))))
theorem one_lit (l : List UInt8) (n : Int) (hl : l.length ≤ 100) (h : oneF l = n) (w : World) (hN : NamesAt w) : Calls Tryd.prog 13 #[.string ⟨l.toArray⟩] w fun e w' => e = .returned (.int .i64 n) ∧ Below w.heap.size w w' := by
  have := one_any ⟨l.toArray⟩ w (by unfold maxLen; show l.toArray.size ≤ _; simp; omega) hN
  rw [show (ByteArray.mk l.toArray).data.toList = l by simp, h] at this
  exact this
/-- The letters that the law asks for by name. -/
structure OneH : Prop where
  o0 : ∀ w, NamesAt w → Calls Tryd.prog 13 #[.string ⟨#[97, 109, 112]⟩] w fun e w' => e = .returned (.int .i64 38) ∧ Below w.heap.size w w'
  o1 : ∀ w, NamesAt w → Calls Tryd.prog 13 #[.string ⟨#[103, 116]⟩] w fun e w' => e = .returned (.int .i64 62) ∧ Below w.heap.size w w'
  o2 : ∀ w, NamesAt w → Calls Tryd.prog 13 #[.string ⟨#[113, 117, 111, 116]⟩] w fun e w' => e = .returned (.int .i64 34) ∧ Below w.heap.size w w'
  o3 : ∀ w, NamesAt w → Calls Tryd.prog 13 #[.string ⟨#[97, 112, 111, 115]⟩] w fun e w' => e = .returned (.int .i64 39) ∧ Below w.heap.size w w'
  o4 : ∀ w, NamesAt w → Calls Tryd.prog 13 #[.string ⟨#[]⟩] w fun e w' => e = .returned (.int .i64 0) ∧ Below w.heap.size w w'
  o5 : ∀ w, NamesAt w → Calls Tryd.prog 13 #[.string ⟨#[35, 49, 50, 51, 52, 53, 54, 55, 56, 57]⟩] w fun e w' => e = .returned (.int .i64 0) ∧ Below w.heap.size w w'
theorem oneH : OneH := ⟨fun w hN => one_lit [97, 109, 112] 38 (by decide) (by decide +kernel) w hN, fun w hN => one_lit [103, 116] 62 (by decide) (by decide +kernel) w hN, fun w hN => one_lit [113, 117, 111, 116] 34 (by decide) (by decide +kernel) w hN, fun w hN => one_lit [97, 112, 111, 115] 39 (by decide) (by decide +kernel) w hN, fun w hN => one_lit [] 0 (by decide) (by decide +kernel) w hN, fun w hN => one_lit [35, 49, 50, 51, 52, 53, 54, 55, 56, 57] 0 (by decide) (by decide +kernel) w hN⟩

set_option maxRecDepth 100000 in
set_option maxHeartbeats 4000000 in
theorem entityAny_walk (a0 : ByteArray) (w1 : a0.size ≤ maxLen) (w : World) (hN : NamesAt w) :
    Calls Tryd.prog 5 #[.string a0] w fun e w' => e = .returned (.bool true) ∧ Below w.heap.size w w' := by
  unfold maxLen at w1
  have HN := Lib.hid hN
  have HO := Lib.hid oneH
  have m0 : 0 ≤ min (a0.size : Int) 40 := by omega
  have m1 : min (a0.size : Int) 40 ≤ a0.size := by omega
  clear hN
  go_enter Tryd.func5, Tryd.ntmps5
  go_wp2_with fail
  generalize hgen : a0.extract 0 (min (a0.size : Int) 40).toNat = t
  have htn : t.size ≤ 40 := by rw [← hgen]; simp; omega
  clear hgen
  have hopen := fun w hN => open_any t w (by omega) hN
  go_loopw [4, 5, 6] (fun ov bv iv wr => InAny w t ov bv iv wr) (fun _ bv iv _ => if intOf bv < 0 then t.size + 1 - (intOf iv).toNat else 0)
  case atStart => exact ⟨0, ⟨#[]⟩, rfl, rfl, by decide, Below.refl _ _, .inl ⟨rfl, by omega, [], by simp, rfl, rfl⟩⟩
  case round =>
    obtain ⟨k, O, rfl, rfl, hOs, hB, hcase⟩ := hrel
    have HBW := Lib.hid hB
    have hsz := hB.size
    clear hB
    rcases hcase with ⟨rfl, hk, hI⟩ | ⟨b, rfl, hk, hI⟩
    · by_cases hlt : k < t.size
      · obtain ⟨c, HC, hx, lo, hi, hs0⟩ := byte_of t k hlt
        have hl : k < t.data.toList.length := by simpa using hlt
        have hdr : t.data.toList.drop k = t.data.toList[k] :: t.data.toList.drop (k + 1) := List.drop_eq_getElem_cons hl
        obtain ⟨out, hol, hOe, hO⟩ := hI.out
        by_cases h38 : c = 38
        · have e38 : t.data.toList[k] = 38 := esc_of hl HC.out 38 h38
          rw [e38] at hdr
          rw [hdr] at hO
          have HDR := Lib.hid hdr
          have HOP := Lib.hid hO
          have HOE := Lib.hid hOe
          have Hopen := Lib.hid hopen
          subst h38
          clear hdr hO hOe hI e38 hopen
          obtain ⟨wo, rfl⟩ : ∃ wo, wo = wr := ⟨_, rfl⟩
          go_wp2_with fail
          go_loop [7] (fun mv => ∃ m : Nat, k ≤ m ∧ m ≤ t.size ∧ mv = .int .i64 m ∧ Hid (∀ x, k ≤ x → x < m → Bl t.data.toList x ≠ 59)) (fun mv => t.size - (intOf mv).toNat)
          case atStart => exact ⟨k, Nat.le_refl _, by omega, rfl, fun x h1 h2 => by omega⟩
          case round =>
            obtain ⟨m, hkm, hms, rfl, hno⟩ := hrel
            by_cases hmt : m < t.size
            · obtain ⟨d, HD, hy, dlo, dhi, hds⟩ := byte_of t m hmt
              by_cases h59 : d = 59
              · have hmk : k < m := by
                  rcases Nat.lt_or_ge k m with h | h
                  · exact h
                  · exfalso
                    have e : m = k := by omega
                    have h1 := HC.out
                    have h2 := HD.out
                    rw [e, ← h1] at h2
                    omega
                obtain ⟨j, hj⟩ : ∃ j, m = k + 1 + j := ⟨m - (k + 1), by omega⟩
                subst hj
                have hix : Lib.indexByte (38 :: t.data.toList.drop (k + 1)) 59 = (j : Int) + 1 := by
                  rw [← HDR.out]
                  have hit := index_hit (t.data.toList.drop k) (j + 1) (by simp; omega) (fun x hx => by
                    rw [Bl_drop]
                    exact hno.out (k + x) (by omega) (by omega)) (by
                    rw [Bl_drop, show k + (j + 1) = k + 1 + j by omega, ← HD.out, h59])
                  rw [hit]
                  omega
                have htk : (t.extract (k + 1) (k + 1 + j)).data.toList = (t.data.toList.drop (k + 1)).take j := by
                  rw [Lib.extract_data]
                  congr 1
                  omega
                have hone := fun w hN => one_any (t.extract (k + 1) (k + 1 + j)) w (by unfold maxLen; simp; omega) hN
                rw [htk] at hone
                obtain ⟨u, hu⟩ : ∃ u, u = oneF ((t.data.toList.drop (k + 1)).take j) := ⟨_, rfl⟩
                rw [← hu] at hone
                have Hone := Lib.hid hone
                have HU := Lib.hid hu
                have HIX := Lib.hid hix
                have e1 : (k : Int) + 1 ≤ t.size := by omega
                have e2 : ((k + 1 + j : Nat) : Int) ≤ t.size := by omega
                have e3 : (k : Int) + 1 ≤ ((k + 1 + j : Nat) : Int) := by omega
                have e5 : ((k : Int) + 1).toNat = k + 1 := by omega
                have e6 : ¬ t.size ≤ k + 1 + j := by omega
                have e7 : ¬ ((t.size : Int) ≤ ((k + 1 + j : Nat) : Int)) := by omega
                clear hone hu hix htk hno
                by_cases hu0 : u = 0
                · have hfin := HOP.out.trans (openG_none HIX.out (by rw [← HU.out]; exact hu0))
                  have Hfin := Lib.hid hfin
                  subst hu0
                  subst h59
                  clear hfin
                  go_wp2_with fail
                  refine (Hone.out _ (HN.out.below HBW.out)).mono ?_
                  rintro e w2 ⟨rfl, hb2⟩
                  have HB2 := Lib.hid (HBW.out.trans (hb2.mono hsz))
                  clear hb2
                  go_wp2_with fail
                  go_roundw
                  case rel => exact ⟨k + 1, O, by go_num, rfl, hOs, HB2.out, .inr ⟨k, rfl, by omega, Hfin⟩⟩
                  case measure => simp [intOf]; split <;> omega
                · have hub : (u == 0) = false := by simpa using hu0
                  have hfin := HOP.out.trans (openG_some HIX.out (by rw [← HU.out]; exact hu0))
                  rw [← HU.out, List.drop_drop] at hfin
                  have hol2 : (out ++ Lib.bytesOf (putI u)).length ≤ 4 * (k + 1 + j + 1) := by
                    have := putI_le u
                    rw [List.length_append, Lib.bytesOf_length]
                    omega
                  have hOS : O ++ strOfNums (putI u) = baL (out ++ Lib.bytesOf (putI u)) := by
                    rw [HOE.out, ← ba_append]
                    rfl
                  have hsz2 : (O ++ strOfNums (putI u) : ByteArray).size ≤ 200 := by rw [hOS, baL_size]; omega
                  have Hfin : Hid (∃ out2 : List UInt8, out2.length ≤ 4 * (k + 1 + j + 1) ∧ O ++ strOfNums (putI u) = baL out2 ∧ openF t.data.toList = openG (t.data.toList.drop (k + 1 + j + 1)) (k + 1 + j + 1 : Nat) out2) := by
                    refine ⟨_, hol2, hOS, ?_⟩
                    rw [hfin]
                    congr 1
                    · omega
                  have hps : (strOfNums (putI u)).size ≤ 4 := by rw [strOfNums_size]; exact putI_le u
                  have hput := fun w => rput_any u w
                  obtain ⟨S, hS⟩ : ∃ S, S = strOfNums (putI u) := ⟨_, rfl⟩
                  rw [← hS] at hput hps hsz2 Hfin
                  have Hput := Lib.hid hput
                  have Hsz2 := Lib.hid hsz2
                  subst h59
                  clear hfin hol2 hOS hsz2 hput hS hu0
                  go_wp2_with fail
                  refine (Hone.out _ (HN.out.below HBW.out)).mono ?_
                  rintro e w2 ⟨rfl, hb2⟩
                  have HB2 := Lib.hid (HBW.out.trans (hb2.mono hsz))
                  clear hb2
                  go_wp2_with fail
                  refine (Hone.out _ (HN.out.below HB2.out)).mono ?_
                  rintro e w3 ⟨rfl, hb3⟩
                  have HB3 := Lib.hid (HB2.out.trans (hb3.mono HB2.out.size))
                  clear hb3
                  go_wp2_with fail
                  refine (Hput.out _).mono ?_
                  rintro e w4 ⟨rfl, hb4⟩
                  have HB4 := Lib.hid (HB3.out.trans (hb4.mono HB3.out.size))
                  clear hb4
                  go_wp2_with fail
                  go_roundw
                  case rel => exact ⟨k + 1 + j + 1, _, by go_num, rfl, Hsz2.out, HB4.out, .inl ⟨rfl, by omega, Hfin⟩⟩
                  case measure => simp [intOf]; omega
              · have h59b : (d == 59) = false := by simpa using h59
                have hno' : Hid (∀ x, k ≤ x → x < m + 1 → Bl t.data.toList x ≠ 59) := fun x h1 h2 => by
                  by_cases hxm : x = m
                  · rw [hxm, ← HD.out]; exact h59
                  · exact hno.out x h1 (by omega)
                clear hno h59
                go_wp2_with fail
                go_round
                case rel => exact ⟨m + 1, by omega, by omega, by go_num, hno'⟩
                case measure => simp [intOf]; omega
            · have hms2 : m = t.size := by omega
              have hix : Lib.indexByte (38 :: t.data.toList.drop (k + 1)) 59 = -1 := by
                rw [← HDR.out]
                refine index_out _ (fun x hx => ?_)
                rw [Bl_drop]
                simp at hx
                exact hno.out (k + x) (by omega) (by omega)
              have hfin := HOP.out.trans (openG_open (by rw [hix]; decide))
              have Hfin := Lib.hid hfin
              clear hfin hix hno
              subst hms2
              go_wp2_with fail
              go_roundw
              case rel => exact ⟨k + 1, O, by go_num, rfl, hOs, HBW.out, .inr ⟨k, rfl, by omega, Hfin⟩⟩
              case measure => simp [intOf]; split <;> omega
        · have h38b : (c == 38) = false := by simpa using h38
          have hne : t.data.toList[k] ≠ 38 := fun e => h38 (by rw [HC.out]; unfold Bl; rw [List.getD_eq_getElem?_getD, List.getElem?_eq_getElem hl]; simp [e])
          rw [hdr, openG_plain hne] at hO
          have hstep : O ++ t.extract k (k + 1) = baL (out ++ [t.data.toList[k]]) := by
            rw [hOe, ← ba_append]
            congr 1
            apply eq_baL
            rw [Lib.extract_data, List.drop_eq_getElem_cons hl, show k + 1 - k = 1 by omega]
            simp
          have hsz2 : (O ++ t.extract k (k + 1) : ByteArray).size ≤ 200 := by rw [hstep, baL_size]; simp; omega
          have Hfin : Hid (∃ out : List UInt8, out.length ≤ 4 * (k + 1) ∧ O ++ t.extract k (k + 1) = baL out ∧ openF t.data.toList = openG (t.data.toList.drop (k + 1)) (k + 1 : Nat) out) :=
            ⟨_, by simp; omega, hstep, by rw [hO]; congr 1⟩
          have Hsz2 := Lib.hid hsz2
          have hk1 : k + 1 ≤ t.size := by omega
          have Hopen := Lib.hid hopen
          clear hO hstep hsz2 hne hdr h38 hOe hI hopen
          go_wp2_with fail
          go_roundw
          case rel => exact ⟨k + 1, _, by go_num, rfl, Hsz2.out, HBW.out, .inl ⟨rfl, hk1, Hfin⟩⟩
          case measure => simp [intOf]; omega
      · have hd : t.data.toList.drop k = [] := List.drop_eq_nil_of_le (by simp; omega)
        obtain ⟨out, hol, hOe, hO⟩ := hI.out
        rw [hd, openG_nil] at hO
        rw [hO] at hopen
        have hfin : baL (out, (-1 : Int)).1 = O := hOe.symm
        rw [hfin] at hopen
        have HT := Lib.hid hopen
        clear hO hd hopen hfin hI hOe
        go_wp2_with fail
        refine (HT.out _ (HN.out.below HBW.out)).mono ?_
        rintro e w2 ⟨rfl, hb2⟩
        have HB2 := Lib.hid (HBW.out.trans (hb2.mono HBW.out.size))
        clear hb2
        go_wp2_with fail
        refine (ent_awake _ (HN.out.below HB2.out)).mono ?_
        rintro e w3 ⟨rfl, hb3⟩
        have HB3 := Lib.hid (HB2.out.trans (hb3.mono HB2.out.size))
        clear hb3
        go_wp2_with fail
        refine (HO.out.o0 _ (HN.out.below HB3.out)).mono ?_
        rintro e w4 ⟨rfl, hb4⟩
        have HB4 := Lib.hid (HB3.out.trans (hb4.mono HB3.out.size))
        clear hb4
        go_wp2_with fail
        refine (HO.out.o1 _ (HN.out.below HB4.out)).mono ?_
        rintro e w5 ⟨rfl, hb5⟩
        have HB5 := Lib.hid (HB4.out.trans (hb5.mono HB4.out.size))
        clear hb5
        go_wp2_with fail
        refine (HO.out.o2 _ (HN.out.below HB5.out)).mono ?_
        rintro e w6 ⟨rfl, hb6⟩
        have HB6 := Lib.hid (HB5.out.trans (hb6.mono HB5.out.size))
        clear hb6
        go_wp2_with fail
        refine (HO.out.o3 _ (HN.out.below HB6.out)).mono ?_
        rintro e w7 ⟨rfl, hb7⟩
        have HB7 := Lib.hid (HB6.out.trans (hb7.mono HB6.out.size))
        clear hb7
        go_wp2_with fail
        refine (HO.out.o4 _ (HN.out.below HB7.out)).mono ?_
        rintro e w8 ⟨rfl, hb8⟩
        have HB8 := Lib.hid (HB7.out.trans (hb8.mono HB7.out.size))
        clear hb8
        go_wp2_with fail
        refine (HO.out.o5 _ (HN.out.below HB8.out)).mono ?_
        rintro e w9 ⟨rfl, hb9⟩
        have HB9 := Lib.hid (HB8.out.trans (hb9.mono HB8.out.size))
        clear hb9
        go_wp2_with fail
        go_ret
        exact ⟨rfl, HB9.out⟩
    · rw [hI.out, show baL (([] : List UInt8), (b : Int)).1 = ⟨#[]⟩ from rfl] at hopen
      have HT := Lib.hid hopen
      have hb1 : 0 ≤ (b : Int) := by omega
      clear hopen hI
      by_cases hlt : k < t.size
      all_goals
        go_wp2_with fail
        refine (HT.out _ (HN.out.below HBW.out)).mono ?_
        rintro e w2 ⟨rfl, hb2⟩
        have HB2 := Lib.hid (HBW.out.trans (hb2.mono HBW.out.size))
        clear hb2
        go_wp2_with fail
        refine (ent_awake _ (HN.out.below HB2.out)).mono ?_
        rintro e w3 ⟨rfl, hb3⟩
        have HB3 := Lib.hid (HB2.out.trans (hb3.mono HB2.out.size))
        clear hb3
        go_wp2_with fail
        refine (HO.out.o0 _ (HN.out.below HB3.out)).mono ?_
        rintro e w4 ⟨rfl, hb4⟩
        have HB4 := Lib.hid (HB3.out.trans (hb4.mono HB3.out.size))
        clear hb4
        go_wp2_with fail
        refine (HO.out.o1 _ (HN.out.below HB4.out)).mono ?_
        rintro e w5 ⟨rfl, hb5⟩
        have HB5 := Lib.hid (HB4.out.trans (hb5.mono HB4.out.size))
        clear hb5
        go_wp2_with fail
        refine (HO.out.o2 _ (HN.out.below HB5.out)).mono ?_
        rintro e w6 ⟨rfl, hb6⟩
        have HB6 := Lib.hid (HB5.out.trans (hb6.mono HB5.out.size))
        clear hb6
        go_wp2_with fail
        refine (HO.out.o3 _ (HN.out.below HB6.out)).mono ?_
        rintro e w7 ⟨rfl, hb7⟩
        have HB7 := Lib.hid (HB6.out.trans (hb7.mono HB6.out.size))
        clear hb7
        go_wp2_with fail
        refine (HO.out.o4 _ (HN.out.below HB7.out)).mono ?_
        rintro e w8 ⟨rfl, hb8⟩
        have HB8 := Lib.hid (HB7.out.trans (hb8.mono HB7.out.size))
        clear hb8
        go_wp2_with fail
        refine (HO.out.o5 _ (HN.out.below HB8.out)).mono ?_
        rintro e w9 ⟨rfl, hb9⟩
        have HB9 := Lib.hid (HB8.out.trans (hb9.mono HB8.out.size))
        clear hb9
        go_wp2_with fail
        go_ret
        exact ⟨rfl, HB9.out⟩
end Go.Proofs.YtgdkmipkgjkjjaaDoor
