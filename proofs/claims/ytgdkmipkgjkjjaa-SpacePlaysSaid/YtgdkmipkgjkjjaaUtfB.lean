/- The contract of utf.Get. -/
import Derived.Test.YtgdkmipkgjkjjaaUtfA
import Derived.BigQuiet
import Derived.Lib.Hide
namespace Go.Proofs.Ytgdkmipkgjkjjaa
open Go.RowKit

/-- The byte at a place, as a number. -/
@[irreducible] def Bl (l : List UInt8) (i : Nat) : Int := ((l.getD i 0).toNat : Int)
theorem Bl_lo (l : List UInt8) (i : Nat) : 0 ≤ Bl l i := by unfold Bl; omega
theorem Bl_hi (l : List UInt8) (i : Nat) : Bl l i < 256 := by unfold Bl; have := (l.getD i 0).toNat_lt; omega
theorem Bl_drop (l : List UInt8) (k i : Nat) : Bl (l.drop k) i = Bl l (k + i) := by unfold Bl; simp [List.getD_eq_getElem?_getD]
theorem Bl_get (s : ByteArray) (k : Nat) (h : k < s.size) : ((s[k].toNat : Nat) : Int) = Bl s.data.toList k := by
  have h' : k < s.data.toList.length := by simpa using h
  unfold Bl
  rw [List.getD_eq_getElem?_getD, List.getElem?_eq_getElem h']
  rfl
/-- The letter's bits after some more bytes. -/
def dec (l : List UInt8) : Nat → Int
  | 0 => formR (Bl l 0)
  | i + 1 => dec l i * 64 + Bl l (i + 1) % 64
/-- Are so many bytes behind the first one in their form? -/
@[irreducible] def conts (l : List UInt8) (n : Nat) : Bool := decide (∀ j, j < n → 128 ≤ Bl l (j + 1) ∧ Bl l (j + 1) < 192)
/-- The letter that a text begins with, and how many bytes it has. -/
@[irreducible] def getL (l : List UInt8) : Int × Int :=
  if l = [] then (0, 0)
  else if formN (Bl l 0) = 0 ∨ (l.length : Int) < formN (Bl l 0) then (0, 0)
  else if conts l ((formN (Bl l 0)).toNat - 1) = false then (0, 0)
  else if sizeI (dec l ((formN (Bl l 0)).toNat - 1)) ≠ formN (Bl l 0) then (0, 0)
  else (dec l ((formN (Bl l 0)).toNat - 1), formN (Bl l 0))
@[irreducible] def getAt (l : List UInt8) (k : Int) : Int × Int := if k < 0 ∨ (l.length : Int) ≤ k then (0, 0) else getL (l.drop k.toNat)

theorem formN_bd (c : Int) : 0 ≤ formN c ∧ formN c ≤ 4 := by unfold formN; (repeat' split) <;> omega
theorem formR_bd (c : Int) (h0 : 0 ≤ c) : 0 ≤ formR c ∧ formR c < 128 := by unfold formR; (repeat' split) <;> omega

theorem get_out (s : ByteArray) (k : Int) (w : World) (hs : s.size ≤ maxLen) (hk : k < 0 ∨ (s.size : Int) ≤ k) :
    Calls Try.prog 13 #[.string s, .int .i64 k] w fun e w' => e = .returned (.tuple #[.int .i64 0, .int .i64 0]) ∧ w = w' := by
  unfold maxLen at hs
  rcases hk with hk | hk
  · go_enter Try.func13, Try.ntmps13
    go_wp2_with fail
    go_ret2
    exact ⟨rfl, rfl⟩
  · have hk' : ¬ k < 0 := by omega
    go_enter Try.func13, Try.ntmps13
    go_wp2_with fail
    go_ret2
    exact ⟨rfl, rfl⟩

theorem and192 (b : Int) (h0 : 0 ≤ b) (h1 : b < 256) : (bits BinOp.and IntKind.u8 b 192 != 128) = !(decide (128 ≤ b ∧ b < 192)) := by
  have h : ∀ x : Fin 256, (bits BinOp.and IntKind.u8 ((x.val : Nat) : Int) 192 != 128) = !(decide (128 ≤ ((x.val : Nat) : Int) ∧ ((x.val : Nat) : Int) < 192)) := by decide +kernel
  obtain ⟨n, rfl⟩ := Int.eq_ofNat_of_zero_le h0
  exact h ⟨n, by omega⟩
theorem ofInt_i64 (a : Nat) (ha : a < 9223372036854775808) : (BitVec.ofInt 64 (a : Int)).toNat = a := by
  rw [BitVec.ofInt_natCast, BitVec.toNat_ofNat]; exact Nat.mod_eq_of_lt (by omega)
theorem i64_or_nat (a b : Nat) (ha : a < 9223372036854775808) (hb : b < 9223372036854775808) : bits .or .i64 (a : Int) (b : Int) = ((a ||| b : Nat) : Int) := by
  have hx : a ||| b < 2 ^ 63 := Nat.or_lt_two_pow (by omega) (by omega)
  show IntKind.i64.wrap ((BitVec.ofInt 64 (a : Int) ||| BitVec.ofInt 64 (b : Int)).toNat : Int) = _
  rw [BitVec.toNat_or, ofInt_i64 a ha, ofInt_i64 b hb, IntKind.wrap_i64]
  omega
theorem or64 (d b : Int) (h0 : 0 ≤ d) (h1 : d < 33554432) (g0 : 0 ≤ b) : bits BinOp.or IntKind.i64 (d * 64) (b % 64) = d * 64 + b % 64 := by
  obtain ⟨x, rfl⟩ := Int.eq_ofNat_of_zero_le h0
  obtain ⟨y, rfl⟩ := Int.eq_ofNat_of_zero_le g0
  have e1 : ((x : Int) * 64) = ((x * 64 : Nat) : Int) := by omega
  have e2 : ((y : Int) % 64) = ((y % 64 : Nat) : Int) := by omega
  rw [e1, e2, i64_or_nat _ _ (by omega) (by omega)]
  have h := Nat.shiftLeft_add_eq_or_of_lt (i := 6) (b := y % 64) (by omega) x
  rw [Nat.shiftLeft_eq] at h
  rw [← h]
  omega

theorem getL_short {l : List UInt8} {c n : Int} (hc : c = Bl l 0) (hn : n = formN c) (hl : 0 < l.length) (h : n = 0 ∨ (l.length : Int) < n) : getL l = (0, 0) := by
  subst hc; subst hn
  unfold getL
  rw [if_neg (by intro h0; subst h0; simp at hl), if_pos h]
theorem getL_cont {l : List UInt8} {c n : Int} (hc : c = Bl l 0) (hn : n = formN c) (j : Nat) (hj : (j : Int) + 1 < n) (hb : ¬ (128 ≤ Bl l (j + 1) ∧ Bl l (j + 1) < 192)) : getL l = (0, 0) := by
  subst hc; subst hn
  unfold getL
  have hf : conts l ((formN (Bl l 0)).toNat - 1) = false := by
    unfold conts
    rw [decide_eq_false_iff_not]
    intro h
    exact hb (h j (by omega))
  rw [hf]
  split
  · rfl
  · split
    · rfl
    · rfl
theorem getL_end {l : List UInt8} {c n : Int} (hc : c = Bl l 0) (hn : n = formN c) (h0 : 1 ≤ n) (hl : n ≤ l.length) (hb : ∀ j : Nat, (j : Int) + 1 < n → 128 ≤ Bl l (j + 1) ∧ Bl l (j + 1) < 192) :
    getL l = if sizeI (dec l (n.toNat - 1)) ≠ n then (0, 0) else (dec l (n.toNat - 1), n) := by
  subst hc; subst hn
  unfold getL
  have hf : conts l ((formN (Bl l 0)).toNat - 1) = true := by
    unfold conts
    rw [decide_eq_true_eq]
    intro j hj
    exact hb j (by omega)
  rw [if_neg (by intro e; subst e; simp at hl; omega), if_neg (by omega), if_neg (by simp [hf])]
theorem dec_bd (l : List UInt8) : ∀ i : Nat, 0 ≤ dec l i ∧ dec l i < 128 * 64 ^ i
  | 0 => by have := formR_bd (Bl l 0) (Bl_lo l 0); simpa [dec] using this
  | i + 1 => by
    have h := dec_bd l i
    have h1 := Bl_lo l (i + 1)
    have e : (64 : Int) ^ (i + 1) = 64 ^ i * 64 := Int.pow_succ _ _
    unfold dec
    rw [e]
    constructor <;> omega
theorem dec_bd3 (l : List UInt8) (i : Nat) (h : i ≤ 3) : 0 ≤ dec l i ∧ dec l i < 33554432 := by
  have := dec_bd l i
  have : i = 0 ∨ i = 1 ∨ i = 2 ∨ i = 3 := by omega
  rcases this with rfl | rfl | rfl | rfl <;> omega

set_option maxHeartbeats 400000 in
theorem get_in (s : ByteArray) (k : Nat) (w : World) (hs : s.size ≤ maxLen) (hk : k < s.size) :
    Calls Try.prog 13 #[.string s, .int .i64 k] w fun e w' => e = .returned (.tuple #[.int .i64 (getL (s.data.toList.drop k)).1, .int .i64 (getL (s.data.toList.drop k)).2]) ∧ w = w' := by
  unfold maxLen at hs
  obtain ⟨l, hl⟩ : ∃ l, l = s.data.toList.drop k := ⟨_, rfl⟩
  rw [← hl]
  have hlen : (l.length : Int) = s.size - k := by rw [hl]; simp; omega
  have hat : ∀ i (h : k + i < s.size), ((s[k + i].toNat : Nat) : Int) = Bl l i := by
    intro i h
    rw [Bl_get s (k + i) h, hl, Bl_drop]
  have h0 := hat 0 hk
  obtain ⟨c, hc⟩ : ∃ c, c = Bl l 0 := ⟨_, rfl⟩
  have hx : ((s[k].toNat : Nat) : Int) = c := by rw [hc]; exact h0
  clear h0
  have c0 : 0 ≤ c := by rw [hc]; exact Bl_lo _ _
  have c1 : c < 256 := by rw [hc]; exact Bl_hi _ _
  obtain ⟨n, hn⟩ : ∃ n, n = formN c := ⟨_, rfl⟩
  obtain ⟨r0, hr0⟩ : ∃ r, r = formR c := ⟨_, rfl⟩
  have hform : ∀ w, Calls Try.prog 42 #[.int .u8 c] w fun e w' => e = .returned (.tuple #[.int .i64 n, .int .i64 r0]) ∧ w = w' := by
    intro w; rw [hn, hr0]; exact form_any c c0 c1 w
  have hnb := formN_bd c
  rw [← hn] at hnb
  obtain ⟨hn0, hn4⟩ := hnb
  have Hl := Lib.hid hl; clear hl
  have Hlen := Lib.hid hlen; clear hlen
  have Hat := Lib.hid hat; clear hat
  have Hc := Lib.hid hc; clear hc
  have Hn := Lib.hid hn; clear hn
  have Hr0 := Lib.hid hr0; clear hr0
  have Hform := Lib.hid hform; clear hform
  have hkk : ¬ s.size ≤ k := by omega
  have hk0 : ¬ (k : Int) < 0 := by omega
  by_cases hne : n = 0 ∨ (l.length : Int) < n
  · have hfin := getL_short Hc.out Hn.out (by have := Hlen.out; omega) hne
    rw [hfin]
    rw [Hlen.out] at hne
    rcases hne with rfl | hne
    · go_enter Try.func13, Try.ntmps13
      go_wp2_with (go_at_call 42; refine (Hform.out _).mono ?_; rintro e w' ⟨rfl, rfl⟩)
      go_ret2
      exact ⟨rfl, rfl⟩
    · have hn1 : 1 ≤ n := by omega
      have hb : (s.size : Int) - n < k := by omega
      go_enter Try.func13, Try.ntmps13
      go_wp2_with (go_at_call 42; refine (Hform.out _).mono ?_; rintro e w' ⟨rfl, rfl⟩)
      go_ret2
      exact ⟨rfl, rfl⟩
  · have hn1 : 1 ≤ n := by omega
    have hnl : n ≤ l.length := by omega
    have hnk : n + k ≤ s.size := by have := Hlen.out; omega
    have hb : ¬ (s.size : Int) - n < k := by omega
    clear hne
    have hnb : (n == 0) = false := by simp; omega
    go_enter Try.func13, Try.ntmps13
    go_wp2_with (go_at_call 42; refine (Hform.out _).mono ?_; rintro e w' ⟨rfl, rfl⟩)
    go_loop [7, 8] (fun r i => ∃ j : Nat, (j : Int) + 1 ≤ n ∧ r = .int .i64 (dec l j) ∧ i = .int .i64 ((j : Int) + 1) ∧ (∀ m : Nat, m < j → 128 ≤ Bl l (m + 1) ∧ Bl l (m + 1) < 192)) (fun _ i => (n - intOf i).toNat)
    case atStart => exact ⟨0, by omega, by rw [Hr0.out, Hc.out]; rfl, rfl, fun m hm => by omega⟩
    case round =>
      obtain ⟨j, hj, rfl, rfl, hm⟩ := hrel
      have hmm := Lib.hid hm
      clear hm
      by_cases hlt : (j : Int) + 1 < n
      · have hat := Hat.out (j + 1) (by omega)
        obtain ⟨b, hb⟩ : ∃ b, b = Bl l (j + 1) := ⟨_, rfl⟩
        have b0 : 0 ≤ b := by rw [hb]; exact Bl_lo _ _
        have b1 : b < 256 := by rw [hb]; exact Bl_hi _ _
        rw [← hb] at hat
        have hB := Lib.hid hb
        clear hb
        obtain ⟨d, hd⟩ : ∃ d, d = dec l j := ⟨_, rfl⟩
        have hdb := dec_bd3 l j (by omega)
        rw [← hd] at hdb
        rw [← hd]
        have hD := Lib.hid hd
        clear hd
        obtain ⟨d0, d1⟩ := hdb
        have hbt := and192 b b0 b1
        by_cases hct : 128 ≤ b ∧ b < 192
        · rw [decide_eq_true hct] at hbt
          go_wp2_with fail
          go_round
          case rel =>
            refine ⟨j + 1, by omega, ?_, by go_num, ?_⟩
            · rw [or64 d b d0 d1 b0]; show _ = Value.int IntKind.i64 (dec l j * 64 + Bl l (j + 1) % 64); rw [hB.out, hD.out]
            · intro m hm
              by_cases hmj : m < j
              · exact hmm.out m hmj
              · obtain rfl : m = j := by omega
                rw [← hB.out]; exact hct
          case measure => simp [intOf]; omega
        · rw [decide_eq_false hct] at hbt
          have hfin := getL_cont Hc.out Hn.out j hlt (by rw [← hB.out]; exact hct)
          have Hfin := Lib.hid hfin
          clear hfin
          go_wp2_with fail
          go_ret2
          exact ⟨by rw [Hfin.out]; rfl, rfl⟩
      · have hjn : n.toNat - 1 = j := by omega
        have hfin := getL_end Hc.out Hn.out hn1 hnl (fun m hm => hmm.out m (by omega))
        rw [hjn] at hfin
        obtain ⟨d, hd⟩ : ∃ d, d = dec l j := ⟨_, rfl⟩
        rw [← hd] at hfin ⊢
        clear hjn
        have hD := Lib.hid hd
        clear hd
        by_cases hz : sizeI d = n
        · rw [if_neg (by simpa using hz)] at hfin
          have Hfin := Lib.hid hfin
          have hzz : (sizeI d != n) = false := by simp [hz]
          clear hfin hz
          go_wp2_with (go_at_call 17; refine (size_any _ _).mono ?_; rintro e w' ⟨rfl, rfl⟩)
          go_ret2
          exact ⟨by rw [Hfin.out]; rfl, rfl⟩
        · rw [if_pos hz] at hfin
          have Hfin := Lib.hid hfin
          have hzz : (sizeI d != n) = true := by simp [hz]
          clear hfin hz
          go_wp2_with (go_at_call 17; refine (size_any _ _).mono ?_; rintro e w' ⟨rfl, rfl⟩)
          go_ret2
          exact ⟨by rw [Hfin.out]; rfl, rfl⟩

theorem get_any (s : ByteArray) (k : Int) (w : World) (hs : s.size ≤ maxLen) :
    Calls Try.prog 13 #[.string s, .int .i64 k] w fun e w' => e = .returned (.tuple #[.int .i64 (getAt s.data.toList k).1, .int .i64 (getAt s.data.toList k).2]) ∧ w = w' := by
  by_cases h : k < 0 ∨ (s.size : Int) ≤ k
  · have e : getAt s.data.toList k = (0, 0) := by unfold getAt; rw [if_pos (by simpa using h)]
    rw [e]
    exact get_out s k w hs h
  · obtain ⟨n, rfl⟩ := Int.eq_ofNat_of_zero_le (show 0 ≤ k by omega)
    have e : getAt s.data.toList (n : Int) = getL (s.data.toList.drop n) := by
      unfold getAt
      rw [if_neg (by simpa using h), Int.toNat_natCast]
    rw [e]
    exact get_in s n w hs (by omega)
end Go.Proofs.Ytgdkmipkgjkjjaa
