/- The walk of the law EntityNumbers. -/
import Derived.Test.YtgdkmipkgjkjjaaDoorEntG
namespace Go.Proofs.YtgdkmipkgjkjjaaDoor
open Go.RowKit

theorem and_mask (n : Int) (m : Nat) (hm : m < 9223372036854775808) : 0 ≤ bits BinOp.and IntKind.i64 n (m : Int) ∧ bits BinOp.and IntKind.i64 n (m : Int) ≤ m := by
  have e : bits BinOp.and IntKind.i64 n (m : Int) = IntKind.i64.wrap ((BitVec.ofInt 64 n &&& BitVec.ofInt 64 (m : Int)).toNat : Int) := rfl
  have h : (BitVec.ofInt 64 n &&& BitVec.ofInt 64 (m : Int)).toNat ≤ m := by
    rw [BitVec.toNat_and, ofInt_i64 m hm]
    exact Nat.and_le_right
  rw [e, IntKind.wrap_i64]
  omega
theorem ba_lit (l m : List UInt8) : (⟨l.toArray⟩ : ByteArray) ++ baL m = baL (l ++ m) := ba_append l m
theorem ba_lit2 (l m : List UInt8) : baL l ++ (⟨m.toArray⟩ : ByteArray) = baL (l ++ m) := ba_append l m

/-- All that the law calls, at one number. -/
structure NumH (k : Nat) (S N X out : ByteArray) (want at_ : Int) : Prop where
  put : ∀ w, Calls Tryd.prog 10 #[.int .i64 k] w fun e w' => e = .returned (.string S) ∧ Below w.heap.size w w'
  num : ∀ w, Calls Tryd.prog 12 #[.int .i64 k] w fun e w' => e = .returned (.string N) ∧ Below w.heap.size w w'
  hex : ∀ w, Calls Tryd.prog 14 #[.int .i64 k] w fun e w' => e = .returned (.string X) ∧ Below w.heap.size w w'
  opn : ∀ w, NamesAt w → Calls Tryd.prog 6 #[.string (⟨#[38, 35]⟩ ++ N ++ ⟨#[59]⟩)] w fun e w' => e = .returned (.tuple #[.string out, .int .i64 at_]) ∧ Below w.heap.size w w'
  one : ∀ w, NamesAt w → Calls Tryd.prog 13 #[.string (⟨#[35]⟩ ++ N)] w fun e w' => e = .returned (.int .i64 want) ∧ Below w.heap.size w w'
  onex : ∀ w, NamesAt w → Calls Tryd.prog 13 #[.string (⟨#[35, 120]⟩ ++ X)] w fun e w' => e = .returned (.int .i64 want) ∧ Below w.heap.size w w'
  nz : N.size ≤ 7
  xz : X.size ≤ 8
theorem numH (k : Nat) (h : k ≤ 2097151) : ∃ N X, NumH k (strOfNums (putI (k : Int))) N X (baL (if letterB (k : Int) = true then Lib.bytesOf (putI (k : Int)) else [])) (letK k) (if letterB (k : Int) = true then -1 else 0) := by
  have l1 : (baL (numF k)).size ≤ 7 := by rw [baL_size]; exact numF_len 6 _ (by omega)
  have l2 : (baL (hexF k)).size ≤ 8 := by rw [baL_size]; exact hexF_len 7 _ (by omega)
  have z1 : (⟨#[38, 35]⟩ : ByteArray).size = 2 := rfl
  have z2 : (⟨#[59]⟩ : ByteArray).size = 1 := rfl
  have z3 : (⟨#[35]⟩ : ByteArray).size = 1 := rfl
  have z4 : (⟨#[35, 120]⟩ : ByteArray).size = 2 := rfl
  refine ⟨baL (numF k), baL (hexF k), fun w => rput_any k w, fun w => num_any k k (Nat.le_refl _) h k rfl w, fun w => (hex_any k k (Nat.le_refl _) h k rfl w).mono fun e w' hh => ⟨hh.1, below_drew_of hh.2⟩, fun w hN => ?_, fun w hN => ?_, fun w hN => ?_, l1, l2⟩
  · have e : (⟨#[38, 35]⟩ ++ baL (numF k) ++ ⟨#[59]⟩ : ByteArray) = baL ([38, 35] ++ numF k ++ [59]) := by
      rw [← ba_append, ← ba_append]; rfl
    have hc := open_any (baL ([38, 35] ++ numF k ++ [59])) w (by rw [← e]; simp; omega) hN
    rw [baL_data, open_num h] at hc
    rw [e]
    cases hl : letterB (k : Int) <;> (rw [hl] at hc; exact hc)
  · have e : (⟨#[35]⟩ ++ baL (numF k) : ByteArray) = baL (35 :: numF k) := by
      rw [show (35 :: numF k) = [35] ++ numF k from rfl, ← ba_append]; rfl
    have hc := one_any (baL (35 :: numF k)) w (by rw [← e]; unfold maxLen; simp; omega) hN
    rw [baL_data, one_num h] at hc
    rw [e]
    exact hc
  · have e : (⟨#[35, 120]⟩ ++ baL (hexF k) : ByteArray) = baL (35 :: 120 :: hexF k) := by
      rw [show (35 :: 120 :: hexF k) = [35, 120] ++ hexF k from rfl, ← ba_append]; rfl
    have hc := one_any (baL (35 :: 120 :: hexF k)) w (by rw [← e]; unfold maxLen; simp; omega) hN
    rw [baL_data, one_hex h] at hc
    rw [e]
    exact hc


set_option maxHeartbeats 1000000 in
theorem numbers_none (a0 : Int) (k : Nat) (hk : bits BinOp.and IntKind.i64 a0 2097151 = (k : Int)) (S N X : ByteArray) (H : NumH k S N X ⟨#[]⟩ (0) (0)) (hE : S.toList.isEmpty = true) (w : World) (hN : NamesAt w) :
    Calls Tryd.prog 4 #[.int .i64 a0] w fun e w' => e = .returned (.bool true) ∧ Below w.heap.size w w' := by
  have HN := Lib.hid hN
  have HH := Lib.hid H
  have l1 := H.nz
  have l2 := H.xz
  clear hN H
  go_enter Tryd.func4, Tryd.ntmps4
  go_wp2_with fail
  refine (HH.out.put _).mono ?_
  rintro e w2 ⟨rfl, hb2⟩
  have HB2 := Lib.hid (hb2)
  clear hb2
  go_wp2_with fail
  refine (HH.out.num _).mono ?_
  rintro e w3 ⟨rfl, hb3⟩
  have HB3 := Lib.hid (HB2.out.trans (hb3.mono HB2.out.size))
  clear hb3
  go_wp2_with fail
  refine (HH.out.opn _ (HN.out.below HB3.out)).mono ?_
  rintro e w4 ⟨rfl, hb4⟩
  have HB4 := Lib.hid (HB3.out.trans (hb4.mono HB3.out.size))
  clear hb4
  go_wp2_with fail
  refine (ent_awake _ (HN.out.below HB4.out)).mono ?_
  rintro e w5 ⟨rfl, hb5⟩
  have HB5 := Lib.hid (HB4.out.trans (hb5.mono HB4.out.size))
  clear hb5
  go_wp2_with fail
  refine (HH.out.num _).mono ?_
  rintro e w6 ⟨rfl, hb6⟩
  have HB6 := Lib.hid (HB5.out.trans (hb6.mono HB5.out.size))
  clear hb6
  go_wp2_with fail
  refine (HH.out.one _ (HN.out.below HB6.out)).mono ?_
  rintro e w7 ⟨rfl, hb7⟩
  have HB7 := Lib.hid (HB6.out.trans (hb7.mono HB6.out.size))
  clear hb7
  go_wp2_with fail
  refine (HH.out.hex _).mono ?_
  rintro e w8 ⟨rfl, hb8⟩
  have HB8 := Lib.hid (HB7.out.trans (hb8.mono HB7.out.size))
  clear hb8
  go_wp2_with fail
  refine (HH.out.onex _ (HN.out.below HB8.out)).mono ?_
  rintro e w9 ⟨rfl, hb9⟩
  have HB9 := Lib.hid (HB8.out.trans (hb9.mono HB8.out.size))
  clear hb9
  go_wp2_with fail
  go_ret
  exact ⟨rfl, HB9.out⟩

set_option maxHeartbeats 1000000 in
theorem numbers_no (a0 : Int) (k : Nat) (hk : bits BinOp.and IntKind.i64 a0 2097151 = (k : Int)) (S N X : ByteArray) (H : NumH k S N X ⟨#[]⟩ (0) (0)) (hE : S.toList.isEmpty = false) (T : ∀ w, Calls Tryd.prog 11 #[.string S] w fun e w' => e = .returned (.int .i64 0) ∧ Below w.heap.size w w') (w : World) (hN : NamesAt w) :
    Calls Tryd.prog 4 #[.int .i64 a0] w fun e w' => e = .returned (.bool true) ∧ Below w.heap.size w w' := by
  have HN := Lib.hid hN
  have HH := Lib.hid H
  have HT := Lib.hid T
  clear T
  have l1 := H.nz
  have l2 := H.xz
  clear hN H
  go_enter Tryd.func4, Tryd.ntmps4
  go_wp2_with fail
  refine (HH.out.put _).mono ?_
  rintro e w2 ⟨rfl, hb2⟩
  have HB2 := Lib.hid (hb2)
  clear hb2
  go_wp2_with fail
  refine (HT.out _).mono ?_
  rintro e w3 ⟨rfl, hb3⟩
  have HB3 := Lib.hid (HB2.out.trans (hb3.mono HB2.out.size))
  clear hb3
  go_wp2_with fail
  refine (HH.out.num _).mono ?_
  rintro e w4 ⟨rfl, hb4⟩
  have HB4 := Lib.hid (HB3.out.trans (hb4.mono HB3.out.size))
  clear hb4
  go_wp2_with fail
  refine (HH.out.opn _ (HN.out.below HB4.out)).mono ?_
  rintro e w5 ⟨rfl, hb5⟩
  have HB5 := Lib.hid (HB4.out.trans (hb5.mono HB4.out.size))
  clear hb5
  go_wp2_with fail
  refine (ent_awake _ (HN.out.below HB5.out)).mono ?_
  rintro e w6 ⟨rfl, hb6⟩
  have HB6 := Lib.hid (HB5.out.trans (hb6.mono HB5.out.size))
  clear hb6
  go_wp2_with fail
  refine (HH.out.num _).mono ?_
  rintro e w7 ⟨rfl, hb7⟩
  have HB7 := Lib.hid (HB6.out.trans (hb7.mono HB6.out.size))
  clear hb7
  go_wp2_with fail
  refine (HH.out.one _ (HN.out.below HB7.out)).mono ?_
  rintro e w8 ⟨rfl, hb8⟩
  have HB8 := Lib.hid (HB7.out.trans (hb8.mono HB7.out.size))
  clear hb8
  go_wp2_with fail
  refine (HH.out.hex _).mono ?_
  rintro e w9 ⟨rfl, hb9⟩
  have HB9 := Lib.hid (HB8.out.trans (hb9.mono HB8.out.size))
  clear hb9
  go_wp2_with fail
  refine (HH.out.onex _ (HN.out.below HB9.out)).mono ?_
  rintro e w10 ⟨rfl, hb10⟩
  have HB10 := Lib.hid (HB9.out.trans (hb10.mono HB9.out.size))
  clear hb10
  go_wp2_with fail
  go_ret
  exact ⟨rfl, HB10.out⟩

set_option maxHeartbeats 1000000 in
theorem numbers_yes (a0 : Int) (k : Nat) (hk : bits BinOp.and IntKind.i64 a0 2097151 = (k : Int)) (S N X : ByteArray) (H : NumH k S N X S ((k : Int)) ((-1))) (hE : S.toList.isEmpty = false) (hp : 0 < (k : Int)) (hz : ((k : Int) == 0) = false) (T : ∀ w, Calls Tryd.prog 11 #[.string S] w fun e w' => e = .returned (.int .i64 (-1)) ∧ Below w.heap.size w w') (w : World) (hN : NamesAt w) :
    Calls Tryd.prog 4 #[.int .i64 a0] w fun e w' => e = .returned (.bool true) ∧ Below w.heap.size w w' := by
  have HN := Lib.hid hN
  have HH := Lib.hid H
  have HT := Lib.hid T
  clear T
  have l1 := H.nz
  have l2 := H.xz
  clear hN H
  go_enter Tryd.func4, Tryd.ntmps4
  go_wp2_with fail
  refine (HH.out.put _).mono ?_
  rintro e w2 ⟨rfl, hb2⟩
  have HB2 := Lib.hid (hb2)
  clear hb2
  go_wp2_with fail
  refine (HT.out _).mono ?_
  rintro e w3 ⟨rfl, hb3⟩
  have HB3 := Lib.hid (HB2.out.trans (hb3.mono HB2.out.size))
  clear hb3
  go_wp2_with fail
  refine (HH.out.num _).mono ?_
  rintro e w4 ⟨rfl, hb4⟩
  have HB4 := Lib.hid (HB3.out.trans (hb4.mono HB3.out.size))
  clear hb4
  go_wp2_with fail
  refine (HH.out.opn _ (HN.out.below HB4.out)).mono ?_
  rintro e w5 ⟨rfl, hb5⟩
  have HB5 := Lib.hid (HB4.out.trans (hb5.mono HB4.out.size))
  clear hb5
  go_wp2_with fail
  refine (ent_awake _ (HN.out.below HB5.out)).mono ?_
  rintro e w6 ⟨rfl, hb6⟩
  have HB6 := Lib.hid (HB5.out.trans (hb6.mono HB5.out.size))
  clear hb6
  go_wp2_with fail
  refine (HH.out.num _).mono ?_
  rintro e w7 ⟨rfl, hb7⟩
  have HB7 := Lib.hid (HB6.out.trans (hb7.mono HB6.out.size))
  clear hb7
  go_wp2_with fail
  refine (HH.out.one _ (HN.out.below HB7.out)).mono ?_
  rintro e w8 ⟨rfl, hb8⟩
  have HB8 := Lib.hid (HB7.out.trans (hb8.mono HB7.out.size))
  clear hb8
  go_wp2_with fail
  refine (HH.out.hex _).mono ?_
  rintro e w9 ⟨rfl, hb9⟩
  have HB9 := Lib.hid (HB8.out.trans (hb9.mono HB8.out.size))
  clear hb9
  go_wp2_with fail
  refine (HH.out.onex _ (HN.out.below HB9.out)).mono ?_
  rintro e w10 ⟨rfl, hb10⟩
  have HB10 := Lib.hid (HB9.out.trans (hb10.mono HB9.out.size))
  clear hb10
  go_wp2_with fail
  refine (HH.out.put _).mono ?_
  rintro e w11 ⟨rfl, hb11⟩
  have HB11 := Lib.hid (HB10.out.trans (hb11.mono HB10.out.size))
  clear hb11
  go_wp2_with fail
  go_ret
  exact ⟨rfl, HB11.out⟩

theorem entityNumbers_walk (a0 : Int) (_w0 : (Lit.int .i64 a0).wf = true) (w : World) (hN : NamesAt w) :
    Calls Tryd.prog 4 #[.int .i64 a0] w fun e w' => e = .returned (.bool true) ∧ Below w.heap.size w w' := by
  obtain ⟨h0, h1⟩ := and_mask a0 2097151 (by omega)
  rw [show ((2097151 : Nat) : Int) = 2097151 from rfl] at h0 h1
  obtain ⟨k, hk⟩ : ∃ k : Nat, bits BinOp.and IntKind.i64 a0 2097151 = (k : Int) := ⟨(bits BinOp.and IntKind.i64 a0 2097151).toNat, by omega⟩
  rw [hk] at h1
  obtain ⟨N, X, H⟩ := numH k (by omega)
  unfold letK at H
  cases hm : mayB (k : Int)
  · have hl := letter_may hm
    rw [hl] at H
    refine numbers_none a0 k hk _ N X H ?_ w hN
    rw [putI_no hm]
    exact isEmpty_of (by rw [strOfNums_size]; rfl)
  · have hS0 : 0 < (strOfNums (putI (k : Int))).size := by
      rw [strOfNums_size]
      have h1 := putI_len (k : Int)
      have h2 := (sizeI_eq (k : Int) (sizeI (k : Int))).1 rfl
      rw [hm] at h2
      simp at h2
      omega
    have hT : ∀ w, Calls Tryd.prog 11 #[.string (strOfNums (putI (k : Int)))] w fun e w' => e = .returned (.int .i64 (if letterB (k : Int) = true then -1 else 0)) ∧ Below w.heap.size w w' := fun w => by
      have hs4 : (strOfNums (putI (k : Int))).size ≤ 4 := by rw [strOfNums_size]; exact putI_le _
      have h := rtext_any (strOfNums (putI (k : Int))) w (by unfold maxLen; omega)
      have e : (strOfNums (putI (k : Int))).data.toList = Lib.bytesOf (putI (k : Int)) := rfl
      rw [e, text_put _ hm] at h
      exact h
    cases hl : letterB (k : Int)
    · rw [hl] at H hT
      exact numbers_no a0 k hk _ N X H (not_isEmpty_of hS0) hT w hN
    · rw [hl] at H hT
      have h0 : k ≠ 0 := fun e0 => by subst e0; revert hl; decide +kernel
      exact numbers_yes a0 k hk _ N X H (not_isEmpty_of hS0) (by omega) (by simp; omega) hT w hN
end Go.Proofs.YtgdkmipkgjkjjaaDoor
