/- chars.Name and galliardref01.Name: joined out of the texts of layers 1 and 2, in a namespace of its own. -/
import Derived.Test.YtljmghaplnkohaaRows
import Derived.WalkKit
import Derived.Outline
import Derived.Lib.Hide
import Derived.BigQuiet
import Derived.OpenShut
import Derived.ShutString
import Derived.Laws.BytesArg
import Derived.LoopN
import Derived.Deep.RegionWith
import Derived.Lib.Bytes
namespace Go.Proofs.Ytljmghaplnkohaa.Nm
open Go.RowKit

/-- May a number be a letter's? -/
@[irreducible] def mayB (r : Int) : Bool := decide (0 ≤ r ∧ r ≤ 1114111 ∧ (r < 55296 ∨ 57343 < r))
theorem mayB_true {r : Int} : mayB r = true ↔ 0 ≤ r ∧ r ≤ 1114111 ∧ (r < 55296 ∨ 57343 < r) := by unfold mayB; simp
theorem mayB_false {r : Int} : mayB r = false ↔ ¬ (0 ≤ r ∧ r ≤ 1114111 ∧ (r < 55296 ∨ 57343 < r)) := by
  rw [← mayB_true]; simp
/-- How many bytes a letter has; 0: it is none. -/
@[irreducible] def sizeI (r : Int) : Int := if mayB r = false then 0 else if r < 128 then 1 else if r < 2048 then 2 else if r < 65536 then 3 else 4
/-- How many bytes a letter has that begins with a byte. -/
@[irreducible] def formN (c : Int) : Int := if c < 128 then 1 else if 194 ≤ c ∧ c < 224 then 2 else if 224 ≤ c ∧ c < 240 then 3 else if 240 ≤ c ∧ c < 245 then 4 else 0
/-- The bits that it has of the letter. -/
@[irreducible] def formR (c : Int) : Int := if c < 128 then c else if 194 ≤ c ∧ c < 224 then c % 32 else if 224 ≤ c ∧ c < 240 then c % 16 else if 240 ≤ c ∧ c < 245 then c % 8 else 0
theorem ret_bool {a b : Bool} (h : a = b) : Ending.returned (.bool a) = .returned (.bool b) := by rw [h]
theorem ret_int {k : IntKind} {a b : Int} (h : a = b) : Ending.returned (.int k a) = .returned (.int k b) := by rw [h]
theorem ret_int2 {k : IntKind} {a b c d : Int} (h : a = b) (h' : c = d) : Ending.returned (.tuple #[.int k a, .int k c]) = .returned (.tuple #[.int k b, .int k d]) := by rw [h, h']
theorem may_any (r : Int) (w : World) :
    Calls Try.prog 89 #[.int .i64 r] w fun e w' => e = .returned (.bool (mayB r)) ∧ w = w' := by
  go_enter Try.func89, Try.ntmps89
  go_wp2
  all_goals
    go_ret
    exact ⟨ret_bool (by symm; first | (rw [mayB_false]; omega) | (rw [mayB_true]; omega) | (rw [Bool.eq_iff_iff, mayB_true]; simp; omega)), rfl⟩
theorem size_any (r : Int) (w : World) :
    Calls Try.prog 88 #[.int .i64 r] w fun e w' => e = .returned (.int .i64 (sizeI r)) ∧ w = w' := by
  cases hm : mayB r
  all_goals
    go_enter Try.func88, Try.ntmps88
    go_wp2_with (go_at_call 89; refine (may_any _ _).mono ?_; rintro e w' ⟨rfl, rfl⟩)
    all_goals
      go_ret
      exact ⟨ret_int (by unfold sizeI; rw [hm]; simp <;> omega), rfl⟩
theorem form_any (c : Int) (h0 : 0 ≤ c) (h1 : c < 256) (w : World) :
    Calls Try.prog 87 #[.int .u8 c] w fun e w' => e = .returned (.tuple #[.int .i64 (formN c), .int .i64 (formR c)]) ∧ w = w' := by
  go_enter Try.func87, Try.ntmps87
  go_wp2
  all_goals
    go_ret2
    exact ⟨ret_int2 (by unfold formN; (repeat' split) <;> omega) (by unfold formR; (repeat' split) <;> omega), rfl⟩
/-- The byte at a place, as a number. -/
@[irreducible] def Bl (l : List UInt8) (i : Nat) : Int := ((l.getD i 0).toNat : Int)
theorem Bl_lo (l : List UInt8) (i : Nat) : 0 ≤ Bl l i := by unfold Bl; omega
theorem Bl_hi (l : List UInt8) (i : Nat) : Bl l i < 256 := by unfold Bl; have := (l.getD i 0).toNat_lt; omega
theorem Bl_drop (l : List UInt8) (k i : Nat) : Bl (l.drop k) i = Bl l (k + i) := by unfold Bl; simp [List.getD_eq_getElem?_getD]
theorem Bl_get (s : ByteArray) (k : Nat) (h : k < s.size) : ((s[k].toNat : Nat) : Int) = Bl s.data.toList k := by
  have h' : k < s.data.toList.length := by simpa using h
  unfold Bl
  rw [List.getD_eq_getElem?_getD, List.getElem?_eq_getElem h']
  rfl
/-- The letter's bits after some more bytes. -/
def dec (l : List UInt8) : Nat → Int
  | 0 => formR (Bl l 0)
  | i + 1 => dec l i * 64 + Bl l (i + 1) % 64
/-- Are so many bytes behind the first one in their form? -/
@[irreducible] def conts (l : List UInt8) (n : Nat) : Bool := decide (∀ j, j < n → 128 ≤ Bl l (j + 1) ∧ Bl l (j + 1) < 192)
/-- The letter that a text begins with, and how many bytes it has. -/
@[irreducible] def getL (l : List UInt8) : Int × Int :=
  if l = [] then (0, 0)
  else if formN (Bl l 0) = 0 ∨ (l.length : Int) < formN (Bl l 0) then (0, 0)
  else if conts l ((formN (Bl l 0)).toNat - 1) = false then (0, 0)
  else if sizeI (dec l ((formN (Bl l 0)).toNat - 1)) ≠ formN (Bl l 0) then (0, 0)
  else (dec l ((formN (Bl l 0)).toNat - 1), formN (Bl l 0))
@[irreducible] def getAt (l : List UInt8) (k : Int) : Int × Int := if k < 0 ∨ (l.length : Int) ≤ k then (0, 0) else getL (l.drop k.toNat)
theorem formN_bd (c : Int) : 0 ≤ formN c ∧ formN c ≤ 4 := by unfold formN; (repeat' split) <;> omega
theorem formR_bd (c : Int) (h0 : 0 ≤ c) : 0 ≤ formR c ∧ formR c < 128 := by unfold formR; (repeat' split) <;> omega
theorem get_out (s : ByteArray) (k : Int) (w : World) (hs : s.size ≤ maxLen) (hk : k < 0 ∨ (s.size : Int) ≤ k) :
    Calls Try.prog 85 #[.string s, .int .i64 k] w fun e w' => e = .returned (.tuple #[.int .i64 0, .int .i64 0]) ∧ w = w' := by
  unfold maxLen at hs
  rcases hk with hk | hk
  · go_enter Try.func85, Try.ntmps85
    go_wp2_with fail
    go_ret2
    exact ⟨rfl, rfl⟩
  · have hk' : ¬ k < 0 := by omega
    go_enter Try.func85, Try.ntmps85
    go_wp2_with fail
    go_ret2
    exact ⟨rfl, rfl⟩
theorem and192 (b : Int) (h0 : 0 ≤ b) (h1 : b < 256) : (bits BinOp.and IntKind.u8 b 192 != 128) = !(decide (128 ≤ b ∧ b < 192)) := by
  have h : ∀ x : Fin 256, (bits BinOp.and IntKind.u8 ((x.val : Nat) : Int) 192 != 128) = !(decide (128 ≤ ((x.val : Nat) : Int) ∧ ((x.val : Nat) : Int) < 192)) := by decide +kernel
  obtain ⟨n, rfl⟩ := Int.eq_ofNat_of_zero_le h0
  exact h ⟨n, by omega⟩
theorem ofInt_i64 (a : Nat) (ha : a < 9223372036854775808) : (BitVec.ofInt 64 (a : Int)).toNat = a := by
  rw [BitVec.ofInt_natCast, BitVec.toNat_ofNat]; exact Nat.mod_eq_of_lt (by omega)
theorem i64_or_nat (a b : Nat) (ha : a < 9223372036854775808) (hb : b < 9223372036854775808) : bits .or .i64 (a : Int) (b : Int) = ((a ||| b : Nat) : Int) := by
  have hx : a ||| b < 2 ^ 63 := Nat.or_lt_two_pow (by omega) (by omega)
  show IntKind.i64.wrap ((BitVec.ofInt 64 (a : Int) ||| BitVec.ofInt 64 (b : Int)).toNat : Int) = _
  rw [BitVec.toNat_or, ofInt_i64 a ha, ofInt_i64 b hb, IntKind.wrap_i64]
  omega
theorem or64 (d b : Int) (h0 : 0 ≤ d) (h1 : d < 33554432) (g0 : 0 ≤ b) : bits BinOp.or IntKind.i64 (d * 64) (b % 64) = d * 64 + b % 64 := by
  obtain ⟨x, rfl⟩ := Int.eq_ofNat_of_zero_le h0
  obtain ⟨y, rfl⟩ := Int.eq_ofNat_of_zero_le g0
  have e1 : ((x : Int) * 64) = ((x * 64 : Nat) : Int) := by omega
  have e2 : ((y : Int) % 64) = ((y % 64 : Nat) : Int) := by omega
  rw [e1, e2, i64_or_nat _ _ (by omega) (by omega)]
  have h := Nat.shiftLeft_add_eq_or_of_lt (i := 6) (b := y % 64) (by omega) x
  rw [Nat.shiftLeft_eq] at h
  rw [← h]
  omega
theorem getL_short {l : List UInt8} {c n : Int} (hc : c = Bl l 0) (hn : n = formN c) (hl : 0 < l.length) (h : n = 0 ∨ (l.length : Int) < n) : getL l = (0, 0) := by
  subst hc; subst hn
  unfold getL
  rw [if_neg (by intro h0; subst h0; simp at hl), if_pos h]
theorem getL_cont {l : List UInt8} {c n : Int} (hc : c = Bl l 0) (hn : n = formN c) (j : Nat) (hj : (j : Int) + 1 < n) (hb : ¬ (128 ≤ Bl l (j + 1) ∧ Bl l (j + 1) < 192)) : getL l = (0, 0) := by
  subst hc; subst hn
  unfold getL
  have hf : conts l ((formN (Bl l 0)).toNat - 1) = false := by
    unfold conts
    rw [decide_eq_false_iff_not]
    intro h
    exact hb (h j (by omega))
  rw [hf]
  split
  · rfl
  · split
    · rfl
    · rfl
theorem getL_end {l : List UInt8} {c n : Int} (hc : c = Bl l 0) (hn : n = formN c) (h0 : 1 ≤ n) (hl : n ≤ l.length) (hb : ∀ j : Nat, (j : Int) + 1 < n → 128 ≤ Bl l (j + 1) ∧ Bl l (j + 1) < 192) :
    getL l = if sizeI (dec l (n.toNat - 1)) ≠ n then (0, 0) else (dec l (n.toNat - 1), n) := by
  subst hc; subst hn
  unfold getL
  have hf : conts l ((formN (Bl l 0)).toNat - 1) = true := by
    unfold conts
    rw [decide_eq_true_eq]
    intro j hj
    exact hb j (by omega)
  rw [if_neg (by intro e; subst e; simp at hl; omega), if_neg (by omega), if_neg (by simp [hf])]
theorem dec_bd (l : List UInt8) : ∀ i : Nat, 0 ≤ dec l i ∧ dec l i < 128 * 64 ^ i
  | 0 => by have := formR_bd (Bl l 0) (Bl_lo l 0); simpa [dec] using this
  | i + 1 => by
    have h := dec_bd l i
    have h1 := Bl_lo l (i + 1)
    have e : (64 : Int) ^ (i + 1) = 64 ^ i * 64 := Int.pow_succ _ _
    unfold dec
    rw [e]
    constructor <;> omega
theorem dec_bd3 (l : List UInt8) (i : Nat) (h : i ≤ 3) : 0 ≤ dec l i ∧ dec l i < 33554432 := by
  have := dec_bd l i
  have : i = 0 ∨ i = 1 ∨ i = 2 ∨ i = 3 := by omega
  rcases this with rfl | rfl | rfl | rfl <;> omega
set_option maxHeartbeats 400000 in
theorem get_in (s : ByteArray) (k : Nat) (w : World) (hs : s.size ≤ maxLen) (hk : k < s.size) :
    Calls Try.prog 85 #[.string s, .int .i64 k] w fun e w' => e = .returned (.tuple #[.int .i64 (getL (s.data.toList.drop k)).1, .int .i64 (getL (s.data.toList.drop k)).2]) ∧ w = w' := by
  unfold maxLen at hs
  obtain ⟨l, hl⟩ : ∃ l, l = s.data.toList.drop k := ⟨_, rfl⟩
  rw [← hl]
  have hlen : (l.length : Int) = s.size - k := by rw [hl]; simp; omega
  have hat : ∀ i (h : k + i < s.size), ((s[k + i].toNat : Nat) : Int) = Bl l i := by
    intro i h
    rw [Bl_get s (k + i) h, hl, Bl_drop]
  have h0 := hat 0 hk
  obtain ⟨c, hc⟩ : ∃ c, c = Bl l 0 := ⟨_, rfl⟩
  have hx : ((s[k].toNat : Nat) : Int) = c := by rw [hc]; exact h0
  clear h0
  have c0 : 0 ≤ c := by rw [hc]; exact Bl_lo _ _
  have c1 : c < 256 := by rw [hc]; exact Bl_hi _ _
  obtain ⟨n, hn⟩ : ∃ n, n = formN c := ⟨_, rfl⟩
  obtain ⟨r0, hr0⟩ : ∃ r, r = formR c := ⟨_, rfl⟩
  have hform : ∀ w, Calls Try.prog 87 #[.int .u8 c] w fun e w' => e = .returned (.tuple #[.int .i64 n, .int .i64 r0]) ∧ w = w' := by
    intro w; rw [hn, hr0]; exact form_any c c0 c1 w
  have hnb := formN_bd c
  rw [← hn] at hnb
  obtain ⟨hn0, hn4⟩ := hnb
  have Hl := Lib.hid hl; clear hl
  have Hlen := Lib.hid hlen; clear hlen
  have Hat := Lib.hid hat; clear hat
  have Hc := Lib.hid hc; clear hc
  have Hn := Lib.hid hn; clear hn
  have Hr0 := Lib.hid hr0; clear hr0
  have Hform := Lib.hid hform; clear hform
  have hkk : ¬ s.size ≤ k := by omega
  have hk0 : ¬ (k : Int) < 0 := by omega
  by_cases hne : n = 0 ∨ (l.length : Int) < n
  · have hfin := getL_short Hc.out Hn.out (by have := Hlen.out; omega) hne
    rw [hfin]
    rw [Hlen.out] at hne
    rcases hne with rfl | hne
    · go_enter Try.func85, Try.ntmps85
      go_wp2_with (go_at_call 87; refine (Hform.out _).mono ?_; rintro e w' ⟨rfl, rfl⟩)
      go_ret2
      exact ⟨rfl, rfl⟩
    · have hn1 : 1 ≤ n := by omega
      have hb : (s.size : Int) - n < k := by omega
      go_enter Try.func85, Try.ntmps85
      go_wp2_with (go_at_call 87; refine (Hform.out _).mono ?_; rintro e w' ⟨rfl, rfl⟩)
      go_ret2
      exact ⟨rfl, rfl⟩
  · have hn1 : 1 ≤ n := by omega
    have hnl : n ≤ l.length := by omega
    have hnk : n + k ≤ s.size := by have := Hlen.out; omega
    have hb : ¬ (s.size : Int) - n < k := by omega
    clear hne
    have hnb : (n == 0) = false := by simp; omega
    go_enter Try.func85, Try.ntmps85
    go_wp2_with (go_at_call 87; refine (Hform.out _).mono ?_; rintro e w' ⟨rfl, rfl⟩)
    go_loop [7, 8] (fun r i => ∃ j : Nat, (j : Int) + 1 ≤ n ∧ r = .int .i64 (dec l j) ∧ i = .int .i64 ((j : Int) + 1) ∧ (∀ m : Nat, m < j → 128 ≤ Bl l (m + 1) ∧ Bl l (m + 1) < 192)) (fun _ i => (n - intOf i).toNat)
    case atStart => exact ⟨0, by omega, by rw [Hr0.out, Hc.out]; rfl, rfl, fun m hm => by omega⟩
    case round =>
      obtain ⟨j, hj, rfl, rfl, hm⟩ := hrel
      have hmm := Lib.hid hm
      clear hm
      by_cases hlt : (j : Int) + 1 < n
      · have hat := Hat.out (j + 1) (by omega)
        obtain ⟨b, hb⟩ : ∃ b, b = Bl l (j + 1) := ⟨_, rfl⟩
        have b0 : 0 ≤ b := by rw [hb]; exact Bl_lo _ _
        have b1 : b < 256 := by rw [hb]; exact Bl_hi _ _
        rw [← hb] at hat
        have hB := Lib.hid hb
        clear hb
        obtain ⟨d, hd⟩ : ∃ d, d = dec l j := ⟨_, rfl⟩
        have hdb := dec_bd3 l j (by omega)
        rw [← hd] at hdb
        rw [← hd]
        have hD := Lib.hid hd
        clear hd
        obtain ⟨d0, d1⟩ := hdb
        have hbt := and192 b b0 b1
        by_cases hct : 128 ≤ b ∧ b < 192
        · rw [decide_eq_true hct] at hbt
          go_wp2_with fail
          go_round
          case rel =>
            refine ⟨j + 1, by omega, ?_, by go_num, ?_⟩
            · rw [or64 d b d0 d1 b0]; show _ = Value.int IntKind.i64 (dec l j * 64 + Bl l (j + 1) % 64); rw [hB.out, hD.out]
            · intro m hm
              by_cases hmj : m < j
              · exact hmm.out m hmj
              · obtain rfl : m = j := by omega
                rw [← hB.out]; exact hct
          case measure => simp [intOf]; omega
        · rw [decide_eq_false hct] at hbt
          have hfin := getL_cont Hc.out Hn.out j hlt (by rw [← hB.out]; exact hct)
          have Hfin := Lib.hid hfin
          clear hfin
          go_wp2_with fail
          go_ret2
          exact ⟨by rw [Hfin.out]; rfl, rfl⟩
      · have hjn : n.toNat - 1 = j := by omega
        have hfin := getL_end Hc.out Hn.out hn1 hnl (fun m hm => hmm.out m (by omega))
        rw [hjn] at hfin
        obtain ⟨d, hd⟩ : ∃ d, d = dec l j := ⟨_, rfl⟩
        rw [← hd] at hfin ⊢
        clear hjn
        have hD := Lib.hid hd
        clear hd
        by_cases hz : sizeI d = n
        · rw [if_neg (by simpa using hz)] at hfin
          have Hfin := Lib.hid hfin
          have hzz : (sizeI d != n) = false := by simp [hz]
          clear hfin hz
          go_wp2_with (go_at_call 88; refine (size_any _ _).mono ?_; rintro e w' ⟨rfl, rfl⟩)
          go_ret2
          exact ⟨by rw [Hfin.out]; rfl, rfl⟩
        · rw [if_pos hz] at hfin
          have Hfin := Lib.hid hfin
          have hzz : (sizeI d != n) = true := by simp [hz]
          clear hfin hz
          go_wp2_with (go_at_call 88; refine (size_any _ _).mono ?_; rintro e w' ⟨rfl, rfl⟩)
          go_ret2
          exact ⟨by rw [Hfin.out]; rfl, rfl⟩
theorem get_any (s : ByteArray) (k : Int) (w : World) (hs : s.size ≤ maxLen) :
    Calls Try.prog 85 #[.string s, .int .i64 k] w fun e w' => e = .returned (.tuple #[.int .i64 (getAt s.data.toList k).1, .int .i64 (getAt s.data.toList k).2]) ∧ w = w' := by
  by_cases h : k < 0 ∨ (s.size : Int) ≤ k
  · have e : getAt s.data.toList k = (0, 0) := by unfold getAt; rw [if_pos (by simpa using h)]
    rw [e]
    exact get_out s k w hs h
  · obtain ⟨n, rfl⟩ := Int.eq_ofNat_of_zero_le (show 0 ≤ k by omega)
    have e : getAt s.data.toList (n : Int) = getL (s.data.toList.drop n) := by
      unfold getAt
      rw [if_neg (by simpa using h), Int.toNat_natCast]
    rw [e]
    exact get_in s n w hs (by omega)
/-- A letter's bytes, as numbers. -/
@[irreducible] def putI (r : Int) : List Int :=
  if mayB r = false then []
  else if r < 128 then [r]
  else if r < 2048 then [192 + r / 64, 128 + r % 64]
  else if r < 65536 then [224 + r / 4096, 128 + r / 64 % 64, 128 + r % 64]
  else [240 + r / 262144, 128 + r / 4096 % 64, 128 + r / 64 % 64, 128 + r % 64]
section
variable (w : World) (a b c d : Int)
theorem cells_get (ns : List Int) (k : Nat) (i : Nat) (hi : i < ns.length) :
    (w.alloc (.cells (ns.map (Value.int .u8)).toArray k)).cell? ⟨w.heap.size, 0 + i, none⟩ = some (.int .u8 (ns.getD i 0)) := by
  have := cell_of_row (w.alloc (.cells (ns.map (Value.int .u8)).toArray k)) w.heap.size (0 + i) (ns.map (Value.int .u8)).toArray k (0, 0) (heap_alloc_new w _)
  rw [this]
  simp [List.getD_eq_getElem?_getD, List.getElem?_eq_getElem hi]
theorem conv_new (ns : List Int) : (convert 26 9 (.slice (some ⟨w.heap.size, 0, none⟩) ns.length ns.length)).run Try.prog (w.alloc (.cells (ns.map (Value.int .u8)).toArray 5)) = .ok (.string (strOfNums ns)) (w.alloc (.cells (ns.map (Value.int .u8)).toArray 5)) :=
  run_convert_bytes_arg _ 26 5 Try.underlying26 Try.underlying5 w.heap.size 0 ns.length ns.length ns rfl (fun i hi => cells_get w ns _ i hi) 9 Try.underlying9
theorem conv_new1 : (convert 26 9 (.slice (some ⟨w.heap.size, 0, none⟩) 1 1)).run Try.prog (w.alloc (.cells #[.int .u8 a] 5)) = .ok (.string (strOfNums [a])) (w.alloc (.cells #[.int .u8 a] 5)) := conv_new w [a]
theorem conv_new2 : (convert 26 9 (.slice (some ⟨w.heap.size, 0, none⟩) 2 2)).run Try.prog (w.alloc (.cells #[.int .u8 a, .int .u8 b] 5)) = .ok (.string (strOfNums [a, b])) (w.alloc (.cells #[.int .u8 a, .int .u8 b] 5)) := conv_new w [a, b]
theorem conv_new3 : (convert 26 9 (.slice (some ⟨w.heap.size, 0, none⟩) 3 3)).run Try.prog (w.alloc (.cells #[.int .u8 a, .int .u8 b, .int .u8 c] 5)) = .ok (.string (strOfNums [a, b, c])) (w.alloc (.cells #[.int .u8 a, .int .u8 b, .int .u8 c] 5)) := conv_new w [a, b, c]
theorem conv_new4 : (convert 26 9 (.slice (some ⟨w.heap.size, 0, none⟩) 4 4)).run Try.prog (w.alloc (.cells #[.int .u8 a, .int .u8 b, .int .u8 c, .int .u8 d] 5)) = .ok (.string (strOfNums [a, b, c, d])) (w.alloc (.cells #[.int .u8 a, .int .u8 b, .int .u8 c, .int .u8 d] 5)) := conv_new w [a, b, c, d]
end
attribute [local go_sem] conv_new1 conv_new2 conv_new3 conv_new4
theorem ret_str {a b : ByteArray} (h : a = b) : Ending.returned (.string a) = .returned (.string b) := by rw [h]
theorem rput_any (r : Int) (w : World) :
    Calls Try.prog 80 #[.int .i64 r] w fun e w' => e = .returned (.string (strOfNums (putI r))) ∧ Below w.heap.size w w' := by
  cases hm : mayB r
  · have e : putI r = [] := by unfold putI; rw [if_pos hm]
    have hm' := mayB_false.1 hm
    rw [e]
    go_enter Try.func80, Try.ntmps80
    go_wp2_with fail
    all_goals
      go_ret
      exact ⟨rfl, Below.refl _ _⟩
  · obtain ⟨h0, h1, h2⟩ := mayB_true.1 hm
    have e : putI r = if r < 128 then [r] else if r < 2048 then [192 + r / 64, 128 + r % 64] else if r < 65536 then [224 + r / 4096, 128 + r / 64 % 64, 128 + r % 64] else [240 + r / 262144, 128 + r / 4096 % 64, 128 + r / 64 % 64, 128 + r % 64] := by
      unfold putI; rw [if_neg (by simp [hm])]
    rw [e]
    clear hm e
    by_cases c1 : r < 128
    · rw [if_pos c1]
      have : 0 ≤ r ∧ r ≤ 1114111 ∧ r < 55296 := by omega
      go_enter Try.func80, Try.ntmps80
      go_wp2_with fail
      go_ret
      exact ⟨rfl, (Below.refl _ _).alloc (Nat.le_refl _) _⟩
    · rw [if_neg c1]
      by_cases c2 : r < 2048
      · rw [if_pos c2]
        have : 0 ≤ r ∧ r ≤ 1114111 ∧ r < 55296 := by omega
        go_enter Try.func80, Try.ntmps80
        go_wp2_with fail
        go_ret
        exact ⟨rfl, (Below.refl _ _).alloc (Nat.le_refl _) _⟩
      · rw [if_neg c2]
        by_cases c3 : r < 65536
        · rw [if_pos c3]
          rcases h2 with h2 | h2
          all_goals
            go_enter Try.func80, Try.ntmps80
            go_wp2_with fail
            go_ret
            exact ⟨rfl, (Below.refl _ _).alloc (Nat.le_refl _) _⟩
        · rw [if_neg c3]
          have h2' : 57343 < r := by omega
          clear h2
          go_enter Try.func80, Try.ntmps80
          go_wp2_with fail
          go_ret
          exact ⟨rfl, (Below.refl _ _).alloc (Nat.le_refl _) _⟩
/-- The number that so many bytes would be. -/
@[irreducible] def rN (l : List UInt8) (n : Nat) : Int :=
  if n = 1 then Bl l 0
  else if n = 2 then (Bl l 0 - 192) * 64 + Bl l 1 - 128
  else if n = 3 then (Bl l 0 - 224) * 4096 + (Bl l 1 - 128) * 64 + Bl l 2 - 128
  else (Bl l 0 - 240) * 262144 + (Bl l 1 - 128) * 4096 + (Bl l 2 - 128) * 64 + Bl l 3 - 128
/-- Are these the letter's bytes? -/
@[irreducible] def hit (l : List UInt8) (n : Nat) : Bool := decide (n ≤ l.length) && (Lib.bytesOf (putI (rN l n)) == l.take n)
/-- The letter that a text begins with, found by trying. -/
@[irreducible] def getR (l : List UInt8) : Int × Int :=
  if hit l 1 = true then (rN l 1, 1) else if hit l 2 = true then (rN l 2, 2) else if hit l 3 = true then (rN l 3, 3) else if hit l 4 = true then (rN l 4, 4) else (0, 0)
theorem hit_eq (s : ByteArray) (n : Nat) (h : n ≤ s.size) (r : Int) (hr : r = rN s.data.toList n) : ((strOfNums (putI r)).toList == (s.extract 0 n).toList) = hit s.data.toList n := by
  unfold hit
  rw [hr, Lib.strOfNums_toList, Lib.extract_toList, decide_eq_true (by simpa using h)]
  simp
theorem hit_short (l : List UInt8) (n : Nat) (h : l.length < n) : hit l n = false := by
  unfold hit
  rw [decide_eq_false (by omega)]
  rfl
theorem getR_hit (l : List UInt8) (n : Nat) (h1 : 1 ≤ n) (h4 : n ≤ 4) (hm : ∀ m, 1 ≤ m → m < n → hit l m = false) (h : hit l n = true) : getR l = (rN l n, (n : Int)) := by
  unfold getR
  have : n = 1 ∨ n = 2 ∨ n = 3 ∨ n = 4 := by omega
  rcases this with rfl | rfl | rfl | rfl
  · rw [if_pos h]; rfl
  · rw [if_neg (by rw [hm 1 (by omega) (by omega)]; simp), if_pos h]; rfl
  · rw [if_neg (by rw [hm 1 (by omega) (by omega)]; simp), if_neg (by rw [hm 2 (by omega) (by omega)]; simp), if_pos h]; rfl
  · rw [if_neg (by rw [hm 1 (by omega) (by omega)]; simp), if_neg (by rw [hm 2 (by omega) (by omega)]; simp), if_neg (by rw [hm 3 (by omega) (by omega)]; simp), if_pos h]; rfl
theorem getR_none (l : List UInt8) (n : Nat) (hl : n = 5 ∨ l.length < n) (hm : ∀ m, 1 ≤ m → m < n → hit l m = false) : getR l = (0, 0) := by
  have h : ∀ m, 1 ≤ m → m ≤ 4 → hit l m = false := fun m h1 h4 => by
    by_cases hlt : m < n
    · exact hm m h1 hlt
    · exact hit_short l m (by omega)
  unfold getR
  rw [if_neg (by rw [h 1 (by omega) (by omega)]; simp), if_neg (by rw [h 2 (by omega) (by omega)]; simp), if_neg (by rw [h 3 (by omega) (by omega)]; simp), if_neg (by rw [h 4 (by omega) (by omega)]; simp)]
/-- The bytes of a text that are there, each as a number of its own. -/
theorem byte_of (s : ByteArray) (k : Nat) (h : k < s.size) : ∃ b : Int, Hid (b = Bl s.data.toList k) ∧ ((s[k].toNat : Nat) : Int) = b ∧ 0 ≤ b ∧ b < 256 ∧ (k : Int) < s.size :=
  ⟨Bl s.data.toList k, rfl, Bl_get s k h, Bl_lo _ _, Bl_hi _ _, by omega⟩
theorem step_below {B n : Nat} {w wr w1 : World} (h : Below B w wr) (h1 : Below ((wr.drewN n).heap.size) (wr.drewN n) w1) (hB : w.heap.size = B) : Below B w w1 := by
  have h2 : Below B w (wr.drewN n) := ⟨h.os, h.tape, h.output, h.size, h.block⟩
  exact h2.trans (h1.mono (by have := h.size; simp; omega))
theorem step_below1 {B : Nat} {w wr w1 : World} (h : Below B w wr) (h1 : Below (wr.drew.heap.size) wr.drew w1) (hB : w.heap.size = B) : Below B w w1 :=
  h.drew.trans (h1.mono (by have := h.size; simp; omega))
set_option maxRecDepth 100000 in
set_option maxHeartbeats 1000000 in
theorem rget_any (s : ByteArray) (w : World) (hs : s.size ≤ maxLen) :
    Calls Try.prog 67 #[.string s] w fun e w' => e = .returned (.tuple #[.int .i64 (getR s.data.toList).1, .int .i64 (getR s.data.toList).2]) ∧ Below w.heap.size w w' := by
  unfold maxLen at hs
  go_enter Try.func67, Try.ntmps67
  go_wp2_with fail
  go_loopw [4] (fun v wr => ∃ n : Int, 1 ≤ n ∧ n ≤ 5 ∧ v = .int .i64 n ∧ Below w.heap.size w wr ∧ Hid (∀ m : Nat, 1 ≤ m → (m : Int) < n → hit s.data.toList m = false)) (fun v _ => (5 - intOf v).toNat)
  case atStart => exact ⟨1, by omega, by omega, rfl, Below.refl _ _, fun m h1 h2 => by omega⟩
  case round =>
    obtain ⟨n, hn0, hn5, rfl, hbw, hmiss⟩ := hrel
    by_cases hlen : (s.size : Int) < n
    · have hfin : getR s.data.toList = (0, 0) := getR_none _ n.toNat (.inr (by simpa using (show s.size < n.toNat by omega))) (fun m h1 h2 => hmiss m h1 (by omega))
      have Hfin := Lib.hid hfin
      clear hfin
      by_cases h5 : n = 5
      · subst h5
        go_wp2_with fail
        go_ret2
        exact ⟨by rw [Hfin.out]; rfl, hbw⟩
      · have h4 : n ≤ 4 := by omega
        have hlen' : ¬ n ≤ (s.size : Int) := by omega
        go_wp2_with fail
        go_ret2
        exact ⟨by rw [Hfin.out]; rfl, hbw⟩
    · have : n = 1 ∨ n = 2 ∨ n = 3 ∨ n = 4 ∨ n = 5 := by omega
      rcases this with rfl | rfl | rfl | rfl | rfl
      · obtain ⟨b0, HB0, hx0, lo0, hi0, hs0⟩ := byte_of s 0 (by omega)
        have hr : b0 = rN s.data.toList 1 := by unfold rN; rw [if_pos rfl, HB0.out]
        have ht := hit_eq s 1 (by omega) (b0) hr
        have Hr := Lib.hid hr
        clear hr
        cases hh : hit s.data.toList 1
        · rw [hh] at ht
          have hmiss' : Hid (∀ m : Nat, 1 ≤ m → (m : Int) < 1 + 1 → hit s.data.toList m = false) := by
            intro m h1 h2
            by_cases hmn : m = 1
            · rw [hmn]; exact hh
            · exact hmiss m h1 (by omega)
          clear hh hmiss
          go_wp2_with fail
          go_region_with (go_at_call 80; refine (rput_any _ _).mono ?_; rintro e w1 ⟨rfl, hb1⟩)
          go_wp2_with fail
          go_roundw
          case rel => exact ⟨2, by omega, by omega, rfl, (by first | exact step_below1 hbw hb1 rfl | exact step_below hbw hb1 rfl), hmiss'⟩
          case measure => simp [intOf]
        · rw [hh] at ht
          have hfin := getR_hit s.data.toList 1 (by omega) (by omega) (fun m h1 h2 => hmiss m h1 (by omega)) hh
          rw [← Hr.out] at hfin
          have Hfin := Lib.hid hfin
          clear hfin hh
          go_wp2_with fail
          go_region_with (go_at_call 80; refine (rput_any _ _).mono ?_; rintro e w1 ⟨rfl, hb1⟩)
          go_wp2_with fail
          go_ret2
          exact ⟨by rw [Hfin.out]; rfl, (by first | exact step_below1 hbw hb1 rfl | exact step_below hbw hb1 rfl)⟩
      · obtain ⟨b0, HB0, hx0, lo0, hi0, hs0⟩ := byte_of s 0 (by omega)
        obtain ⟨b1, HB1, hx1, lo1, hi1, hs1⟩ := byte_of s 1 (by omega)
        have hr : (b0 - 192) * 64 + b1 - 128 = rN s.data.toList 2 := by unfold rN; rw [if_neg (by omega), if_pos rfl, HB0.out, HB1.out]
        have ht := hit_eq s 2 (by omega) ((b0 - 192) * 64 + b1 - 128) hr
        have Hr := Lib.hid hr
        clear hr
        cases hh : hit s.data.toList 2
        · rw [hh] at ht
          have hmiss' : Hid (∀ m : Nat, 1 ≤ m → (m : Int) < 2 + 1 → hit s.data.toList m = false) := by
            intro m h1 h2
            by_cases hmn : m = 2
            · rw [hmn]; exact hh
            · exact hmiss m h1 (by omega)
          clear hh hmiss
          go_wp2_with fail
          go_quiet (fail)
          go_wp2_with fail
          go_region_with (go_at_call 80; refine (rput_any _ _).mono ?_; rintro e w1 ⟨rfl, hb1⟩)
          go_wp2_with fail
          go_roundw
          case rel => exact ⟨3, by omega, by omega, rfl, (by first | exact step_below1 hbw hb1 rfl | exact step_below hbw hb1 rfl), hmiss'⟩
          case measure => simp [intOf]
        · rw [hh] at ht
          have hfin := getR_hit s.data.toList 2 (by omega) (by omega) (fun m h1 h2 => hmiss m h1 (by omega)) hh
          rw [← Hr.out] at hfin
          have Hfin := Lib.hid hfin
          clear hfin hh
          go_wp2_with fail
          go_quiet (fail)
          go_wp2_with fail
          go_region_with (go_at_call 80; refine (rput_any _ _).mono ?_; rintro e w1 ⟨rfl, hb1⟩)
          go_wp2_with fail
          go_ret2
          exact ⟨by rw [Hfin.out]; rfl, (by first | exact step_below1 hbw hb1 rfl | exact step_below hbw hb1 rfl)⟩
      · obtain ⟨b0, HB0, hx0, lo0, hi0, hs0⟩ := byte_of s 0 (by omega)
        obtain ⟨b1, HB1, hx1, lo1, hi1, hs1⟩ := byte_of s 1 (by omega)
        obtain ⟨b2, HB2, hx2, lo2, hi2, hs2⟩ := byte_of s 2 (by omega)
        have hr : (b0 - 224) * 4096 + (b1 - 128) * 64 + b2 - 128 = rN s.data.toList 3 := by unfold rN; rw [if_neg (by omega), if_neg (by omega), if_pos rfl, HB0.out, HB1.out, HB2.out]
        have ht := hit_eq s 3 (by omega) ((b0 - 224) * 4096 + (b1 - 128) * 64 + b2 - 128) hr
        have Hr := Lib.hid hr
        clear hr
        cases hh : hit s.data.toList 3
        · rw [hh] at ht
          have hmiss' : Hid (∀ m : Nat, 1 ≤ m → (m : Int) < 3 + 1 → hit s.data.toList m = false) := by
            intro m h1 h2
            by_cases hmn : m = 3
            · rw [hmn]; exact hh
            · exact hmiss m h1 (by omega)
          clear hh hmiss
          go_wp2_with fail
          go_quiet (fail)
          go_wp2_with fail
          go_region_with (go_at_call 80; refine (rput_any _ _).mono ?_; rintro e w1 ⟨rfl, hb1⟩)
          go_wp2_with fail
          go_roundw
          case rel => exact ⟨4, by omega, by omega, rfl, (by first | exact step_below1 hbw hb1 rfl | exact step_below hbw hb1 rfl), hmiss'⟩
          case measure => simp [intOf]
        · rw [hh] at ht
          have hfin := getR_hit s.data.toList 3 (by omega) (by omega) (fun m h1 h2 => hmiss m h1 (by omega)) hh
          rw [← Hr.out] at hfin
          have Hfin := Lib.hid hfin
          clear hfin hh
          go_wp2_with fail
          go_quiet (fail)
          go_wp2_with fail
          go_region_with (go_at_call 80; refine (rput_any _ _).mono ?_; rintro e w1 ⟨rfl, hb1⟩)
          go_wp2_with fail
          go_ret2
          exact ⟨by rw [Hfin.out]; rfl, (by first | exact step_below1 hbw hb1 rfl | exact step_below hbw hb1 rfl)⟩
      · obtain ⟨b0, HB0, hx0, lo0, hi0, hs0⟩ := byte_of s 0 (by omega)
        obtain ⟨b1, HB1, hx1, lo1, hi1, hs1⟩ := byte_of s 1 (by omega)
        obtain ⟨b2, HB2, hx2, lo2, hi2, hs2⟩ := byte_of s 2 (by omega)
        obtain ⟨b3, HB3, hx3, lo3, hi3, hs3⟩ := byte_of s 3 (by omega)
        have hr : (b0 - 240) * 262144 + (b1 - 128) * 4096 + (b2 - 128) * 64 + b3 - 128 = rN s.data.toList 4 := by unfold rN; rw [if_neg (by omega), if_neg (by omega), if_neg (by omega), HB0.out, HB1.out, HB2.out, HB3.out]
        have ht := hit_eq s 4 (by omega) ((b0 - 240) * 262144 + (b1 - 128) * 4096 + (b2 - 128) * 64 + b3 - 128) hr
        have Hr := Lib.hid hr
        clear hr
        cases hh : hit s.data.toList 4
        · rw [hh] at ht
          have hmiss' : Hid (∀ m : Nat, 1 ≤ m → (m : Int) < 4 + 1 → hit s.data.toList m = false) := by
            intro m h1 h2
            by_cases hmn : m = 4
            · rw [hmn]; exact hh
            · exact hmiss m h1 (by omega)
          clear hh hmiss
          go_wp2_with fail
          go_quiet (fail)
          go_wp2_with fail
          go_region_with (go_at_call 80; refine (rput_any _ _).mono ?_; rintro e w1 ⟨rfl, hb1⟩)
          go_wp2_with fail
          go_roundw
          case rel => exact ⟨5, by omega, by omega, rfl, (by first | exact step_below1 hbw hb1 rfl | exact step_below hbw hb1 rfl), hmiss'⟩
          case measure => simp [intOf]
        · rw [hh] at ht
          have hfin := getR_hit s.data.toList 4 (by omega) (by omega) (fun m h1 h2 => hmiss m h1 (by omega)) hh
          rw [← Hr.out] at hfin
          have Hfin := Lib.hid hfin
          clear hfin hh
          go_wp2_with fail
          go_quiet (fail)
          go_wp2_with fail
          go_region_with (go_at_call 80; refine (rput_any _ _).mono ?_; rintro e w1 ⟨rfl, hb1⟩)
          go_wp2_with fail
          go_ret2
          exact ⟨by rw [Hfin.out]; rfl, (by first | exact step_below1 hbw hb1 rfl | exact step_below hbw hb1 rfl)⟩
      · have hfin : getR s.data.toList = (0, 0) := getR_none _ 5 (.inl rfl) (fun m h1 h2 => hmiss m h1 (by omega))
        have Hfin := Lib.hid hfin
        clear hfin
        go_wp2_with fail
        go_ret2
        exact ⟨by rw [Hfin.out]; rfl, hbw⟩
theorem putI_range (r : Int) : ∀ x ∈ putI r, 0 ≤ x ∧ x < 256 := by
  intro x hx
  unfold putI at hx
  by_cases hm : mayB r = false
  · rw [if_pos hm] at hx; simp at hx
  · rw [if_neg hm] at hx
    have hb := mayB_true.1 (by simpa using hm)
    (repeat' split at hx) <;> simp at hx <;> omega
/-- Numbers of bytes, from bytes. -/
def numsOf (l : List UInt8) : List Int := l.map fun b => (b.toNat : Int)
theorem numsOf_bytesOf (xs : List Int) (h : ∀ x ∈ xs, 0 ≤ x ∧ x < 256) : numsOf (Lib.bytesOf xs) = xs := by
  unfold numsOf Lib.bytesOf
  rw [List.map_map]
  conv => rhs; rw [← List.map_id xs]
  apply List.map_congr_left
  intro x hx
  have := h x hx
  simp
  omega
theorem bytesOf_numsOf (l : List UInt8) : Lib.bytesOf (numsOf l) = l := by
  unfold numsOf Lib.bytesOf
  rw [List.map_map]
  conv => rhs; rw [← List.map_id l]
  apply List.map_congr_left
  intro x _
  simp
theorem hit_iff (l : List UInt8) (n : Nat) : hit l n = true ↔ n ≤ l.length ∧ putI (rN l n) = numsOf (l.take n) := by
  unfold hit
  rw [Bool.and_eq_true, decide_eq_true_eq, beq_iff_eq]
  constructor
  · rintro ⟨h, e⟩
    exact ⟨h, by rw [← e, numsOf_bytesOf _ (putI_range _)]⟩
  · rintro ⟨h, e⟩
    exact ⟨h, by rw [e, bytesOf_numsOf]⟩
theorem numsOf_take : ∀ (n : Nat) (l : List UInt8), n ≤ l.length → numsOf (l.take n) = (List.range n).map (Bl l) := by
  intro n l h
  apply List.ext_getElem
  · simp [numsOf]; omega
  · intro i h1 h2
    simp at h2
    simp [numsOf]
    unfold Bl
    rw [List.getD_eq_getElem?_getD, List.getElem?_eq_getElem (by omega)]
    rfl
section
variable (l : List UInt8)
def ok1 : Prop := 1 ≤ l.length ∧ Bl l 0 < 128
def ok2 : Prop := 2 ≤ l.length ∧ 194 ≤ Bl l 0 ∧ Bl l 0 < 224 ∧ 128 ≤ Bl l 1 ∧ Bl l 1 < 192
def ok3 : Prop := 3 ≤ l.length ∧ 224 ≤ Bl l 0 ∧ Bl l 0 < 240 ∧ 128 ≤ Bl l 1 ∧ Bl l 1 < 192 ∧ 128 ≤ Bl l 2 ∧ Bl l 2 < 192 ∧ 2048 ≤ rN l 3 ∧ (rN l 3 < 55296 ∨ 57343 < rN l 3)
def ok4 : Prop := 4 ≤ l.length ∧ 240 ≤ Bl l 0 ∧ Bl l 0 < 245 ∧ 128 ≤ Bl l 1 ∧ Bl l 1 < 192 ∧ 128 ≤ Bl l 2 ∧ Bl l 2 < 192 ∧ 128 ≤ Bl l 3 ∧ Bl l 3 < 192 ∧ 65536 ≤ rN l 4 ∧ rN l 4 ≤ 1114111
theorem rN_1 : rN l 1 = Bl l 0 := by unfold rN; rw [if_pos rfl]
theorem rN_2 : rN l 2 = (Bl l 0 - 192) * 64 + Bl l 1 - 128 := by unfold rN; rw [if_neg (by omega), if_pos rfl]
theorem rN_3 : rN l 3 = (Bl l 0 - 224) * 4096 + (Bl l 1 - 128) * 64 + Bl l 2 - 128 := by unfold rN; rw [if_neg (by omega), if_neg (by omega), if_pos rfl]
theorem rN_4 : rN l 4 = (Bl l 0 - 240) * 262144 + (Bl l 1 - 128) * 4096 + (Bl l 2 - 128) * 64 + Bl l 3 - 128 := by unfold rN; rw [if_neg (by omega), if_neg (by omega), if_neg (by omega)]
theorem putI_eq (r : Int) (xs : List Int) : putI r = xs ↔ (mayB r = false ∧ xs = []) ∨ (mayB r = true ∧ r < 128 ∧ xs = [r]) ∨ (mayB r = true ∧ 128 ≤ r ∧ r < 2048 ∧ xs = [192 + r / 64, 128 + r % 64]) ∨
    (mayB r = true ∧ 2048 ≤ r ∧ r < 65536 ∧ xs = [224 + r / 4096, 128 + r / 64 % 64, 128 + r % 64]) ∨ (mayB r = true ∧ 65536 ≤ r ∧ xs = [240 + r / 262144, 128 + r / 4096 % 64, 128 + r / 64 % 64, 128 + r % 64]) := by
  unfold putI
  cases hm : mayB r
  · simp [eq_comm]
  · simp only [Bool.true_eq_false, ↓reduceIte, false_and, false_or, true_and]
    by_cases h1 : r < 128
    · have : ¬ 128 ≤ r := by omega
      have : ¬ 2048 ≤ r := by omega
      have : ¬ 65536 ≤ r := by omega
      simp [*, eq_comm]
    · by_cases h2 : r < 2048
      · have : 128 ≤ r := by omega
        have : ¬ 2048 ≤ r := by omega
        have : ¬ 65536 ≤ r := by omega
        simp [*, eq_comm]
      · by_cases h3 : r < 65536
        · have : 2048 ≤ r := by omega
          have : ¬ 65536 ≤ r := by omega
          simp [*, eq_comm]
        · have : 65536 ≤ r := by omega
          simp [*, eq_comm]
theorem hit1 : hit l 1 = true ↔ ok1 l := by
  have h0 := Bl_lo l 0
  have h0' := Bl_hi l 0
  rw [hit_iff, ok1, rN_1]
  refine and_congr_right fun hl => ?_
  rw [numsOf_take 1 l hl, putI_eq, mayB_true, mayB_false]
  simp [List.range_succ]
  omega
theorem hit2 : hit l 2 = true ↔ ok2 l := by
  have h0 := Bl_lo l 0
  have h0' := Bl_hi l 0
  have h1 := Bl_lo l 1
  have h1' := Bl_hi l 1
  rw [hit_iff, ok2, rN_2]
  refine and_congr_right fun hl => ?_
  rw [numsOf_take 2 l hl, putI_eq, mayB_true, mayB_false]
  simp [List.range_succ]
  omega
theorem hit3 : hit l 3 = true ↔ ok3 l := by
  have h0 := Bl_lo l 0
  have h0' := Bl_hi l 0
  have h1 := Bl_lo l 1
  have h1' := Bl_hi l 1
  have h2 := Bl_lo l 2
  have h2' := Bl_hi l 2
  rw [hit_iff, ok3, rN_3]
  refine and_congr_right fun hl => ?_
  rw [numsOf_take 3 l hl, putI_eq, mayB_true, mayB_false]
  simp [List.range_succ]
  omega
theorem hit4 : hit l 4 = true ↔ ok4 l := by
  have h0 := Bl_lo l 0
  have h0' := Bl_hi l 0
  have h1 := Bl_lo l 1
  have h1' := Bl_hi l 1
  have h2 := Bl_lo l 2
  have h2' := Bl_hi l 2
  have h3 := Bl_lo l 3
  have h3' := Bl_hi l 3
  rw [hit_iff, ok4, rN_4]
  refine and_congr_right fun hl => ?_
  rw [numsOf_take 4 l hl, putI_eq, mayB_true, mayB_false]
  simp [List.range_succ]
  omega
end
section
variable (l : List UInt8)
theorem dec_1 : dec l 1 = formR (Bl l 0) * 64 + Bl l 1 % 64 := rfl
theorem dec_2 : dec l 2 = (formR (Bl l 0) * 64 + Bl l 1 % 64) * 64 + Bl l 2 % 64 := rfl
theorem dec_3 : dec l 3 = ((formR (Bl l 0) * 64 + Bl l 1 % 64) * 64 + Bl l 2 % 64) * 64 + Bl l 3 % 64 := rfl
theorem sizeI_eq (r n : Int) : sizeI r = n ↔ (mayB r = false ∧ n = 0) ∨ (mayB r = true ∧ r < 128 ∧ n = 1) ∨ (mayB r = true ∧ 128 ≤ r ∧ r < 2048 ∧ n = 2) ∨ (mayB r = true ∧ 2048 ≤ r ∧ r < 65536 ∧ n = 3) ∨ (mayB r = true ∧ 65536 ≤ r ∧ n = 4) := by
  unfold sizeI
  cases hm : mayB r
  · simp [eq_comm]
  · simp
    split
    · omega
    · split
      · omega
      · split <;> omega
theorem getL_ok1 (h : ok1 l) : getL l = (rN l 1, 1) := by
  obtain ⟨hl, h0⟩ := h
  have hn : formN (Bl l 0) = 1 := by unfold formN; rw [if_pos h0]
  have hr : formR (Bl l 0) = Bl l 0 := by unfold formR; rw [if_pos h0]
  have := Bl_lo l 0
  rw [getL_end rfl rfl (by omega) (by omega) (fun j hj => by omega), hn, rN_1]
  show (if sizeI (formR (Bl l 0)) ≠ 1 then _ else (formR (Bl l 0), (1 : Int))) = _
  rw [hr, if_neg]
  rw [ne_eq, Decidable.not_not, sizeI_eq, mayB_true]
  omega
theorem getL_ok2 (h : ok2 l) : getL l = (rN l 2, 2) := by
  obtain ⟨hl, h0, h0', h1⟩ := h
  have hn : formN (Bl l 0) = 2 := by unfold formN; rw [if_neg (by omega), if_pos (by omega)]
  have hr : formR (Bl l 0) = Bl l 0 % 32 := by unfold formR; rw [if_neg (by omega), if_pos (by omega)]
  have hd : dec l 1 = rN l 2 := by rw [dec_1, rN_2, hr]; omega
  rw [getL_end rfl rfl (by omega) (by omega) (fun j hj => by obtain rfl : j = 0 := by omega
                                                             exact h1), hn]
  show (if sizeI (dec l 1) ≠ 2 then _ else (dec l 1, (2 : Int))) = _
  rw [hd, if_neg]
  rw [ne_eq, Decidable.not_not, sizeI_eq, mayB_true, rN_2]
  omega
theorem getL_ok3 (h : ok3 l) : getL l = (rN l 3, 3) := by
  obtain ⟨hl, h0, h0', h1, h1', h2, h2', hr1, hr2⟩ := h
  have hn : formN (Bl l 0) = 3 := by unfold formN; rw [if_neg (by omega), if_neg (by omega), if_pos (by omega)]
  have hr : formR (Bl l 0) = Bl l 0 % 16 := by unfold formR; rw [if_neg (by omega), if_neg (by omega), if_pos (by omega)]
  have hd : dec l 2 = rN l 3 := by rw [dec_2, rN_3, hr]; omega
  rw [getL_end rfl rfl (by omega) (by omega) (fun j hj => by
    have : j = 0 ∨ j = 1 := by omega
    rcases this with rfl | rfl
    · exact ⟨h1, h1'⟩
    · exact ⟨h2, h2'⟩), hn]
  show (if sizeI (dec l 2) ≠ 3 then _ else (dec l 2, (3 : Int))) = _
  rw [hd, if_neg]
  rw [ne_eq, Decidable.not_not, sizeI_eq, mayB_true]
  have := rN_3 l
  omega
theorem getL_ok4 (h : ok4 l) : getL l = (rN l 4, 4) := by
  obtain ⟨hl, h0, h0', h1, h1', h2, h2', h3, h3', hr1, hr2⟩ := h
  have hn : formN (Bl l 0) = 4 := by unfold formN; rw [if_neg (by omega), if_neg (by omega), if_neg (by omega), if_pos (by omega)]
  have hr : formR (Bl l 0) = Bl l 0 % 8 := by unfold formR; rw [if_neg (by omega), if_neg (by omega), if_neg (by omega), if_pos (by omega)]
  have hd : dec l 3 = rN l 4 := by rw [dec_3, rN_4, hr]; omega
  rw [getL_end rfl rfl (by omega) (by omega) (fun j hj => by
    have : j = 0 ∨ j = 1 ∨ j = 2 := by omega
    rcases this with rfl | rfl | rfl
    · exact ⟨h1, h1'⟩
    · exact ⟨h2, h2'⟩
    · exact ⟨h3, h3'⟩), hn]
  show (if sizeI (dec l 3) ≠ 4 then _ else (dec l 3, (4 : Int))) = _
  rw [hd, if_neg]
  rw [ne_eq, Decidable.not_not, sizeI_eq, mayB_true]
  omega
theorem getL_none (h1 : ¬ ok1 l) (h2 : ¬ ok2 l) (h3 : ¬ ok3 l) (h4 : ¬ ok4 l) : getL l = (0, 0) := by
  by_cases hl : l = []
  · unfold getL; rw [if_pos hl]
  · have hlen : 0 < l.length := List.length_pos_iff.2 hl
    by_cases hn : formN (Bl l 0) = 0 ∨ (l.length : Int) < formN (Bl l 0)
    · exact getL_short rfl rfl hlen hn
    · have hf : formN (Bl l 0) = if Bl l 0 < 128 then 1 else if 194 ≤ Bl l 0 ∧ Bl l 0 < 224 then 2 else if 224 ≤ Bl l 0 ∧ Bl l 0 < 240 then 3 else if 240 ≤ Bl l 0 ∧ Bl l 0 < 245 then 4 else 0 := by unfold formN; rfl
      have hr : formR (Bl l 0) = if Bl l 0 < 128 then Bl l 0 else if 194 ≤ Bl l 0 ∧ Bl l 0 < 224 then Bl l 0 % 32 else if 224 ≤ Bl l 0 ∧ Bl l 0 < 240 then Bl l 0 % 16 else if 240 ≤ Bl l 0 ∧ Bl l 0 < 245 then Bl l 0 % 8 else 0 := by unfold formR; rfl
      by_cases c1 : Bl l 0 < 128
      · exact absurd ⟨hlen, c1⟩ h1
      · rw [if_neg c1] at hf hr
        by_cases c2 : 194 ≤ Bl l 0 ∧ Bl l 0 < 224
        · rw [if_pos c2] at hf hr
          by_cases d1 : 128 ≤ Bl l 1 ∧ Bl l 1 < 192
          · exact absurd ⟨by omega, c2.1, c2.2, d1⟩ h2
          · exact getL_cont rfl rfl 0 (by omega) d1
        · rw [if_neg c2] at hf hr
          by_cases c3 : 224 ≤ Bl l 0 ∧ Bl l 0 < 240
          · rw [if_pos c3] at hf hr
            by_cases d1 : 128 ≤ Bl l 1 ∧ Bl l 1 < 192
            · by_cases d2 : 128 ≤ Bl l 2 ∧ Bl l 2 < 192
              · have hd : dec l 2 = rN l 3 := by rw [dec_2, rN_3, hr]; omega
                have e3 := rN_3 l
                rw [getL_end rfl rfl (by omega) (by omega) (fun j hj => by
                  have : j = 0 ∨ j = 1 := by omega
                  rcases this with rfl | rfl
                  · exact d1
                  · exact d2), hf]
                show (if sizeI (dec l 2) ≠ 3 then _ else (dec l 2, (3 : Int))) = _
                rw [if_pos]
                rw [hd, ne_eq, sizeI_eq, mayB_true, mayB_false]
                intro hc
                exact h3 ⟨by omega, c3.1, c3.2, d1.1, d1.2, d2.1, d2.2, by omega, by omega⟩
              · exact getL_cont rfl rfl 1 (by omega) d2
            · exact getL_cont rfl rfl 0 (by omega) d1
          · rw [if_neg c3] at hf hr
            by_cases c4 : 240 ≤ Bl l 0 ∧ Bl l 0 < 245
            · rw [if_pos c4] at hf hr
              by_cases d1 : 128 ≤ Bl l 1 ∧ Bl l 1 < 192
              · by_cases d2 : 128 ≤ Bl l 2 ∧ Bl l 2 < 192
                · by_cases d3 : 128 ≤ Bl l 3 ∧ Bl l 3 < 192
                  · have hd : dec l 3 = rN l 4 := by rw [dec_3, rN_4, hr]; omega
                    have e4 := rN_4 l
                    rw [getL_end rfl rfl (by omega) (by omega) (fun j hj => by
                      have : j = 0 ∨ j = 1 ∨ j = 2 := by omega
                      rcases this with rfl | rfl | rfl
                      · exact d1
                      · exact d2
                      · exact d3), hf]
                    show (if sizeI (dec l 3) ≠ 4 then _ else (dec l 3, (4 : Int))) = _
                    rw [if_pos]
                    rw [hd, ne_eq, sizeI_eq, mayB_true, mayB_false]
                    intro hc
                    exact h4 ⟨by omega, c4.1, c4.2, d1.1, d1.2, d2.1, d2.2, d3.1, d3.2, by omega, by omega⟩
                  · exact getL_cont rfl rfl 2 (by omega) d3
                · exact getL_cont rfl rfl 1 (by omega) d2
              · exact getL_cont rfl rfl 0 (by omega) d1
            · rw [if_neg c4] at hf
              exact absurd (.inl hf) hn
theorem getR_eq : getR l = getL l := by
  unfold getR
  by_cases h1 : ok1 l
  · rw [if_pos ((hit1 l).2 h1), getL_ok1 l h1]
  · rw [if_neg (fun h => h1 ((hit1 l).1 h))]
    by_cases h2 : ok2 l
    · rw [if_pos ((hit2 l).2 h2), getL_ok2 l h2]
    · rw [if_neg (fun h => h2 ((hit2 l).1 h))]
      by_cases h3 : ok3 l
      · rw [if_pos ((hit3 l).2 h3), getL_ok3 l h3]
      · rw [if_neg (fun h => h3 ((hit3 l).1 h))]
        by_cases h4 : ok4 l
        · rw [if_pos ((hit4 l).2 h4), getL_ok4 l h4]
        · rw [if_neg (fun h => h4 ((hit4 l).1 h)), getL_none l h1 h2 h3 h4]
/-- What is read has so many bytes as are there, and they are the letter's. -/
theorem getL_cases : getL l = (0, 0) ∨ ∃ n : Nat, 1 ≤ n ∧ n ≤ 4 ∧ n ≤ l.length ∧ getL l = (rN l n, (n : Int)) ∧ hit l n = true := by
  by_cases h1 : ok1 l
  · exact .inr ⟨1, by omega, by omega, h1.1, getL_ok1 l h1, (hit1 l).2 h1⟩
  · by_cases h2 : ok2 l
    · exact .inr ⟨2, by omega, by omega, h2.1, getL_ok2 l h2, (hit2 l).2 h2⟩
    · by_cases h3 : ok3 l
      · exact .inr ⟨3, by omega, by omega, h3.1, getL_ok3 l h3, (hit3 l).2 h3⟩
      · by_cases h4 : ok4 l
        · exact .inr ⟨4, by omega, by omega, h4.1, getL_ok4 l h4, (hit4 l).2 h4⟩
        · exact .inl (getL_none l h1 h2 h3 h4)
end
theorem mk2 (w : World) : (Instr.makeSlice 26 (.int .i64 2) (.int .i64 2)).run Try.prog w = .ok (.slice (some ⟨w.heap.size, 0, none⟩) 2 2) (w.alloc (.cells #[.int .u8 0, .int .u8 0] 5)) := by kernel_rfl
theorem mk3 (w : World) : (Instr.makeSlice 26 (.int .i64 3) (.int .i64 3)).run Try.prog w = .ok (.slice (some ⟨w.heap.size, 0, none⟩) 3 3) (w.alloc (.cells #[.int .u8 0, .int .u8 0, .int .u8 0] 5)) := by kernel_rfl
theorem mk4 (w : World) : (Instr.makeSlice 26 (.int .i64 4) (.int .i64 4)).run Try.prog w = .ok (.slice (some ⟨w.heap.size, 0, none⟩) 4 4) (w.alloc (.cells #[.int .u8 0, .int .u8 0, .int .u8 0, .int .u8 0] 5)) := by kernel_rfl
section
variable (w : World) (o : Obj) (a b c d : Int)
theorem conv_row (W : World) (g : Nat) (ns : List Int) (h : W.heap[g]? = some (.cells (ns.map (Value.int .u8)).toArray 5 (0, 0))) :
    (convert 26 9 (.slice (some ⟨g, 0, none⟩) ns.length ns.length)).run Try.prog W = .ok (.string (strOfNums ns)) W :=
  run_convert_bytes_arg _ 26 5 Try.underlying26 Try.underlying5 g 0 ns.length ns.length ns rfl (fun i hi => by
    rw [cell_of_row W g (0 + i) _ _ _ h]
    simp [List.getD_eq_getElem?_getD, List.getElem?_eq_getElem hi]) 9 Try.underlying9
theorem row_under (cs : Array Value) (t : TypeId) : ((w.alloc (.cells cs t)).alloc o).heap[w.heap.size]? = some (.cells cs t (0, 0)) :=
  (Below.heap_alloc _ _ _ (by simp)).trans (heap_alloc_new w _)
theorem conv_under2 : (convert 26 9 (.slice (some ⟨w.heap.size, 0, none⟩) 2 2)).run Try.prog ((w.alloc (.cells #[.int .u8 a, .int .u8 b] 5)).alloc o) = .ok (.string (strOfNums [a, b])) ((w.alloc (.cells #[.int .u8 a, .int .u8 b] 5)).alloc o) := conv_row _ _ [a, b] (row_under w o _ _)
theorem conv_under3 : (convert 26 9 (.slice (some ⟨w.heap.size, 0, none⟩) 3 3)).run Try.prog ((w.alloc (.cells #[.int .u8 a, .int .u8 b, .int .u8 c] 5)).alloc o) = .ok (.string (strOfNums [a, b, c])) ((w.alloc (.cells #[.int .u8 a, .int .u8 b, .int .u8 c] 5)).alloc o) := conv_row _ _ [a, b, c] (row_under w o _ _)
theorem conv_under4 : (convert 26 9 (.slice (some ⟨w.heap.size, 0, none⟩) 4 4)).run Try.prog ((w.alloc (.cells #[.int .u8 a, .int .u8 b, .int .u8 c, .int .u8 d] 5)).alloc o) = .ok (.string (strOfNums [a, b, c, d])) ((w.alloc (.cells #[.int .u8 a, .int .u8 b, .int .u8 c, .int .u8 d] 5)).alloc o) := conv_row _ _ [a, b, c, d] (row_under w o _ _)
end
attribute [local go_sem] conv_new1 conv_under2 conv_under3 conv_under4 mk2 mk3 mk4
theorem i64_and_nat (a b : Nat) (ha : a < 9223372036854775808) (hb : b < 9223372036854775808) : bits .and .i64 (a : Int) (b : Int) = ((a &&& b : Nat) : Int) := by
  have hx : a &&& b < 2 ^ 63 := Nat.and_lt_two_pow _ (by omega)
  show IntKind.i64.wrap ((BitVec.ofInt 64 (a : Int) &&& BitVec.ofInt 64 (b : Int)).toNat : Int) = _
  rw [BitVec.toNat_and, ofInt_i64 a ha, ofInt_i64 b hb, IntKind.wrap_i64]
  omega
theorem and63 (x : Int) (h0 : 0 ≤ x) (h1 : x ≤ 1114111) : bits BinOp.and IntKind.i64 x 63 = x % 64 := by
  obtain ⟨n, rfl⟩ := Int.eq_ofNat_of_zero_le h0
  have h := i64_and_nat n 63 (by omega) (by omega)
  rw [Nat.and_two_pow_sub_one_eq_mod n 6] at h
  exact h.trans (by omega)
theorem or128 (x : Int) (h0 : 0 ≤ x) (h1 : x < 64) : bits BinOp.or IntKind.u8 128 x = 128 + x := by
  have h : ∀ y : Fin 64, bits BinOp.or IntKind.u8 128 ((y.val : Nat) : Int) = 128 + ((y.val : Nat) : Int) := by decide +kernel
  obtain ⟨n, rfl⟩ := Int.eq_ofNat_of_zero_le h0
  exact h ⟨n, by omega⟩
theorem or224 (x : Int) (h0 : 0 ≤ x) (h1 : x < 16) : bits BinOp.or IntKind.u8 224 x = 224 + x := by
  have h : ∀ y : Fin 16, bits BinOp.or IntKind.u8 224 ((y.val : Nat) : Int) = 224 + ((y.val : Nat) : Int) := by decide +kernel
  obtain ⟨n, rfl⟩ := Int.eq_ofNat_of_zero_le h0
  exact h ⟨n, by omega⟩
theorem or240 (x : Int) (h0 : 0 ≤ x) (h1 : x < 8) : bits BinOp.or IntKind.u8 240 x = 240 + x := by
  have h : ∀ y : Fin 8, bits BinOp.or IntKind.u8 240 ((y.val : Nat) : Int) = 240 + ((y.val : Nat) : Int) := by decide +kernel
  obtain ⟨n, rfl⟩ := Int.eq_ofNat_of_zero_le h0
  exact h ⟨n, by omega⟩
/-- The place of the first byte, from a place on, that begins no letter; -1: there is none. -/
def badFrom (l : List UInt8) (k : Nat) : Int :=
  if h : k < l.length then
    if _h0 : (getL (l.drop k)).2 ≤ 0 then (k : Int) else badFrom l (k + (getL (l.drop k)).2.toNat)
  else -1
termination_by l.length - k
decreasing_by omega
/-- How many letters there are from a place on, up to the first byte that begins none. -/
def countFrom (l : List UInt8) (k : Nat) : Nat :=
  if h : k < l.length then
    if _h0 : (getL (l.drop k)).2 ≤ 0 then 0 else countFrom l (k + (getL (l.drop k)).2.toNat) + 1
  else 0
termination_by l.length - k
decreasing_by omega
theorem badFrom_end {l : List UInt8} {k : Nat} (h : l.length ≤ k) : badFrom l k = -1 := by rw [badFrom, dif_neg (by omega)]
theorem badFrom_bad {l : List UInt8} {k : Nat} {r : Int} (h : k < l.length) (hg : getL (l.drop k) = (r, 0)) : badFrom l k = k := by rw [badFrom, dif_pos h, dif_pos (by rw [hg]; exact Int.le_refl _)]
theorem badFrom_next {l : List UInt8} {k n : Nat} {r : Int} (h : k < l.length) (hn : 0 < n) (hg : getL (l.drop k) = (r, (n : Int))) : badFrom l k = badFrom l (k + n) := by
  rw [badFrom, dif_pos h, dif_neg (by rw [hg]; simp; omega), hg]; simp
theorem countFrom_end {l : List UInt8} {k : Nat} (h : l.length ≤ k) : countFrom l k = 0 := by rw [countFrom, dif_neg (by omega)]
theorem countFrom_bad {l : List UInt8} {k : Nat} {r : Int} (h : k < l.length) (hg : getL (l.drop k) = (r, 0)) : countFrom l k = 0 := by rw [countFrom, dif_pos h, dif_pos (by rw [hg]; exact Int.le_refl _)]
theorem countFrom_next {l : List UInt8} {k n : Nat} {r : Int} (h : k < l.length) (hn : 0 < n) (hg : getL (l.drop k) = (r, (n : Int))) : countFrom l k = countFrom l (k + n) + 1 := by
  rw [countFrom, dif_pos h, dif_neg (by rw [hg]; simp; omega), hg]; simp
theorem countFrom_le (l : List UInt8) : ∀ (m k : Nat), l.length - k ≤ m → countFrom l k ≤ l.length - k
  | 0, k, h => by rw [countFrom_end (by omega)]; omega
  | m + 1, k, h => by
    rw [countFrom]
    split
    · split
      · omega
      · have := countFrom_le l m (k + (getL (l.drop k)).2.toNat) (by omega)
        omega
    · omega
/-- What is read at a place that is there. -/
theorem get_at (s : ByteArray) (k : Nat) (h : k < s.size) : ∃ (r : Int) (n : Nat), getL (s.data.toList.drop k) = (r, (n : Int)) ∧ k + n ≤ s.size ∧ n ≤ 4 := by
  rcases getL_cases (s.data.toList.drop k) with e | ⟨n, h1, h4, hl, e, _⟩
  · exact ⟨0, 0, e, by omega, by omega⟩
  · exact ⟨_, n, e, by simp at hl; omega, h4⟩
theorem get_some (s : ByteArray) (k : Nat) (hs : s.size ≤ maxLen) (hk : k < s.size) {r : Int} {n : Nat} (hg : getL (s.data.toList.drop k) = (r, (n : Int))) (w : World) :
    Calls Try.prog 85 #[.string s, .int .i64 k] w fun e w' => e = .returned (.tuple #[.int .i64 r, .int .i64 n]) ∧ w = w' := by
  have := get_in s k w hs hk
  rw [hg] at this
  exact this
theorem rget_some (s : ByteArray) (k : Nat) (hs : s.size ≤ maxLen) {r : Int} {n : Nat} (hg : getL (s.data.toList.drop k) = (r, (n : Int))) (w : World) :
    Calls Try.prog 67 #[.string (s.extract k s.size)] w fun e w' => e = .returned (.tuple #[.int .i64 r, .int .i64 n]) ∧ Below w.heap.size w w' := by
  have h := rget_any (s.extract k s.size) w (by simp only [ByteArray.size_extract]; unfold maxLen at hs ⊢; omega)
  have e : getR (s.extract k s.size).data.toList = (r, (n : Int)) := by
    rw [getR_eq, Lib.extract_data, List.take_of_length_le (by simp), hg]
  rw [e] at h
  exact h
theorem bad_any (s : ByteArray) (w : World) (hs : s.size ≤ maxLen) :
    Calls Try.prog 75 #[.string s] w fun e w' => e = .returned (.int .i64 (badFrom s.data.toList 0)) ∧ w = w' := by
  have hs' := hs
  unfold maxLen at hs
  have Hs := Lib.hid hs'
  clear hs'
  go_enter Try.func75, Try.ntmps75
  go_wp2_with fail
  go_loop [3] (fun a => ∃ k : Nat, k ≤ s.size ∧ a = .int .i64 k ∧ Hid (badFrom s.data.toList 0 = badFrom s.data.toList k)) (fun a => s.size - (intOf a).toNat)
  case atStart => exact ⟨0, by omega, rfl, rfl⟩
  case round =>
    obtain ⟨k, hk, rfl, hinv⟩ := hrel
    by_cases hlt : k < s.size
    · obtain ⟨r, n, hg, hn, hn4⟩ := get_at s k hlt
      have hc := get_some s k Hs.out hlt hg
      have Hc := Lib.hid hc
      clear hc
      by_cases h0 : n = 0
      · subst h0
        have hfin := hinv.out.trans (badFrom_bad (by simpa using hlt) hg)
        have Hfin := Lib.hid hfin
        clear hfin hg
        go_wp2_with (go_at_call 85; refine (Hc.out _).mono ?_; rintro e w' ⟨rfl, rfl⟩)
        go_ret
        exact ⟨by rw [Hfin.out]; rfl, rfl⟩
      · have hfin := hinv.out.trans (badFrom_next (by simpa using hlt) (by omega) hg)
        have Hfin := Lib.hid hfin
        clear hfin hg
        have hz : ((n : Int) == 0) = false := by simp; omega
        go_wp2_with (go_at_call 85; refine (Hc.out _).mono ?_; rintro e w' ⟨rfl, rfl⟩)
        go_round
        case rel => exact ⟨k + n, by omega, by go_num, Hfin⟩
        case measure => simp [intOf]; omega
    · have hfin := hinv.out.trans (badFrom_end (by simpa using hlt))
      have Hfin := Lib.hid hfin
      clear hfin
      go_wp2_with fail
      go_ret
      exact ⟨by rw [Hfin.out]; rfl, rfl⟩
theorem rbad_any (s : ByteArray) (w : World) (hs : s.size ≤ maxLen) :
    Calls Try.prog 50 #[.string s] w fun e w' => e = .returned (.int .i64 (badFrom s.data.toList 0)) ∧ Below w.heap.size w w' := by
  have hs' := hs
  unfold maxLen at hs
  have Hs := Lib.hid hs'
  clear hs'
  go_enter Try.func50, Try.ntmps50
  go_wp2_with fail
  go_loopw [3] (fun a wr => ∃ k : Nat, k ≤ s.size ∧ a = .int .i64 k ∧ Hid (badFrom s.data.toList 0 = badFrom s.data.toList k) ∧ Below w.heap.size w wr) (fun a _ => s.size - (intOf a).toNat)
  case atStart => exact ⟨0, by omega, rfl, rfl, Below.refl _ _⟩
  case round =>
    obtain ⟨k, hk, rfl, hinv, hbw⟩ := hrel
    by_cases hlt : k < s.size
    · obtain ⟨r, n, hg, hn, hn4⟩ := get_at s k hlt
      have hc := rget_some s k Hs.out hg
      have Hc := Lib.hid hc
      clear hc
      by_cases h0 : n = 0
      · subst h0
        have hfin := hinv.out.trans (badFrom_bad (by simpa using hlt) hg)
        have Hfin := Lib.hid hfin
        clear hfin hg
        go_wp2_with (go_at_call 67; refine (Hc.out _).mono ?_; rintro e w1 ⟨rfl, hb1⟩)
        go_ret
        exact ⟨by rw [Hfin.out]; rfl, hbw.trans (hb1.mono hbw.size)⟩
      · have hfin := hinv.out.trans (badFrom_next (by simpa using hlt) (by omega) hg)
        have Hfin := Lib.hid hfin
        clear hfin hg
        have hz : ((n : Int) == 0) = false := by simp; omega
        go_wp2_with (go_at_call 67; refine (Hc.out _).mono ?_; rintro e w1 ⟨rfl, hb1⟩)
        go_roundw
        case rel => exact ⟨k + n, by omega, by go_num, Hfin, hbw.trans (hb1.mono hbw.size)⟩
        case measure => simp [intOf]; omega
    · have hfin := hinv.out.trans (badFrom_end (by simpa using hlt))
      have Hfin := Lib.hid hfin
      clear hfin
      go_wp2_with fail
      go_ret
      exact ⟨by rw [Hfin.out]; rfl, hbw⟩
theorem getAt_a : getAt [195, 169] 0 = (233, 2) := by decide +kernel
theorem getL_b : getL [97, 255] = (97, 1) := by decide +kernel
theorem getL_c : getL [255] = (0, 0) := by decide +kernel
theorem badFrom_a : badFrom [97, 255] 0 = 1 := by
  rw [badFrom_next (l := [97, 255]) (k := 0) (n := 1) (by simp) (by omega) getL_b, badFrom_bad (l := [97, 255]) (k := 0 + 1) (by simp) getL_c]
  rfl
theorem putI_a : strOfNums (putI 233) = ⟨#[195, 169]⟩ := by
  have h : putI 233 = [195, 169] := by decide +kernel
  rw [h]
  rfl
theorem Bl_bytesOf (xs : List Int) (h : ∀ x ∈ xs, 0 ≤ x ∧ x < 256) (i : Nat) : Bl (Lib.bytesOf xs) i = xs.getD i 0 := by
  have e : numsOf (Lib.bytesOf xs) = xs := numsOf_bytesOf xs h
  unfold Bl
  conv => rhs; rw [← e]
  unfold numsOf
  rw [List.getD_eq_getElem?_getD, List.getD_eq_getElem?_getD, List.getElem?_map]
  cases (Lib.bytesOf xs)[i]? <;> simp
theorem putI_no {r : Int} (h : mayB r = false) : putI r = [] := by unfold putI; rw [if_pos h]
theorem putI_len (r : Int) : ((putI r).length : Int) = sizeI r := by
  unfold putI sizeI
  cases mayB r
  · simp
  · simp only [Bool.true_eq_false, ↓reduceIte]
    (repeat' split) <;> rfl
theorem getL_put (r : Int) (h : mayB r = true) : getL (Lib.bytesOf (putI r)) = (r, sizeI r) := by
  obtain ⟨h0, h1, h2⟩ := mayB_true.1 h
  have hB := Bl_bytesOf (putI r) (putI_range r)
  have hlen : (Lib.bytesOf (putI r)).length = (putI r).length := Lib.bytesOf_length _
  have hs := putI_len r
  generalize Lib.bytesOf (putI r) = l at *
  have hr := putI_eq r (putI r)
  rw [h] at hr
  simp only [true_iff, Bool.true_eq_false, false_and, false_or, true_and] at hr
  rcases hr with ⟨c, e⟩ | ⟨c, c', e⟩ | ⟨c, c', e⟩ | ⟨c, e⟩
  all_goals
    rw [e] at hB hlen hs
    have b0 := hB 0
    have b1 := hB 1
    have b2 := hB 2
    have b3 := hB 3
    clear hB
    simp at b0 b1 b2 b3 hlen hs
  · rw [getL_ok1 l ⟨by omega, by omega⟩, rN_1, ← hs, b0]
  · rw [getL_ok2 l ⟨by omega, by omega, by omega, by omega, by omega⟩, rN_2, ← hs]
    exact Prod.ext (by show _ = r; omega) rfl
  · have e3 := rN_3 l
    have er : rN l 3 = r := by omega
    rw [getL_ok3 l ⟨by omega, by omega, by omega, by omega, by omega, by omega, by omega, by omega, by omega⟩, ← hs, er]
  · have e4 := rN_4 l
    have er : rN l 4 = r := by omega
    rw [getL_ok4 l ⟨by omega, by omega, by omega, by omega, by omega, by omega, by omega, by omega, by omega, by omega, by omega⟩, ← hs, er]
theorem putI_le (r : Int) : (putI r).length ≤ 4 := by
  unfold putI
  (repeat' split) <;> simp
@[irreducible] def blankB (c : Int) : Bool := decide (c = 32 ∨ c = 9 ∨ c = 10 ∨ c = 13)
@[irreducible] def startB (c : Int) : Bool := decide (97 ≤ c ∧ c ≤ 122 ∨ 65 ≤ c ∧ c ≤ 90 ∨ c = 95 ∨ 128 ≤ c)
@[irreducible] def partB (c : Int) : Bool := decide ((97 ≤ c ∧ c ≤ 122 ∨ 65 ≤ c ∧ c ≤ 90 ∨ c = 95 ∨ 128 ≤ c) ∨ 48 ≤ c ∧ c ≤ 57 ∨ c = 45 ∨ c = 46)
@[irreducible] def letterB (r : Int) : Bool := decide (r < 32 ∧ (r = 9 ∨ r = 10 ∨ r = 13) ∨ 32 ≤ r ∧ mayB r = true ∧ r ≠ 65534 ∧ r ≠ 65535)
theorem blankB_iff {c : Int} : blankB c = true ↔ (c = 32 ∨ c = 9 ∨ c = 10 ∨ c = 13) := by unfold blankB; simp
theorem startB_iff {c : Int} : startB c = true ↔ (97 ≤ c ∧ c ≤ 122 ∨ 65 ≤ c ∧ c ≤ 90 ∨ c = 95 ∨ 128 ≤ c) := by unfold startB; rw [decide_eq_true_eq]
theorem partB_iff {c : Int} : partB c = true ↔ ((97 ≤ c ∧ c ≤ 122 ∨ 65 ≤ c ∧ c ≤ 90 ∨ c = 95 ∨ 128 ≤ c) ∨ 48 ≤ c ∧ c ≤ 57 ∨ c = 45 ∨ c = 46) := by unfold partB; rw [decide_eq_true_eq]
theorem letterB_iff {r : Int} : letterB r = true ↔ (r < 32 ∧ (r = 9 ∨ r = 10 ∨ r = 13) ∨ 32 ≤ r ∧ mayB r = true ∧ r ≠ 65534 ∧ r ≠ 65535) := by unfold letterB; rw [decide_eq_true_eq]
theorem part_of_start {c : Int} (h : startB c = true) : partB c = true := partB_iff.2 (.inl (startB_iff.1 h))
theorem bool_of_iff {b c : Bool} {p : Prop} (h : b = true ↔ p) (g : c = true ↔ p) : c = b := by
  rw [Bool.eq_iff_iff, h, g]
theorem start_any (c : Int) (h0 : 0 ≤ c) (h1 : c < 256) (w : World) :
    Calls Try.prog 74 #[.int .u8 c] w fun e w' => e = .returned (.bool (startB c)) ∧ w = w' := by
  go_enter Try.func74, Try.ntmps74
  go_wp2_with fail
  all_goals
    go_ret
    exact ⟨ret_bool (bool_of_iff startB_iff (by simp <;> omega)), rfl⟩
theorem part_any (c : Int) (h0 : 0 ≤ c) (h1 : c < 256) (w : World) :
    Calls Try.prog 76 #[.int .u8 c] w fun e w' => e = .returned (.bool (partB c)) ∧ w = w' := by
  cases hs : startB c
  · have hn : ¬ (97 ≤ c ∧ c ≤ 122 ∨ 65 ≤ c ∧ c ≤ 90 ∨ c = 95 ∨ 128 ≤ c) := fun h => by rw [startB_iff.2 h] at hs; cases hs
    have Hn := Lib.hid hn
    clear hn
    go_enter Try.func76, Try.ntmps76
    go_wp2_with (go_at_call 74; refine (start_any _ h0 h1 _).mono ?_; rintro e w' ⟨rfl, rfl⟩)
    all_goals
      go_ret
      exact ⟨ret_bool (bool_of_iff partB_iff (by have := Hn.out; simp <;> omega)), rfl⟩
  · have hp := part_of_start hs
    go_enter Try.func76, Try.ntmps76
    go_wp2_with (go_at_call 74; refine (start_any _ h0 h1 _).mono ?_; rintro e w' ⟨rfl, rfl⟩)
    go_ret
    exact ⟨ret_bool hp.symm, rfl⟩
/-- Is a text a name? -/
@[irreducible] def nameB (l : List UInt8) : Bool := decide (0 < l.length ∧ l.length ≤ 60 ∧ startB (Bl l 0) = true ∧ badFrom l 0 < 0 ∧ ∀ i, i < l.length → partB (Bl l i) = true)
theorem nameB_iff {l : List UInt8} : nameB l = true ↔ (0 < l.length ∧ l.length ≤ 60 ∧ startB (Bl l 0) = true ∧ badFrom l 0 < 0 ∧ ∀ i, i < l.length → partB (Bl l i) = true) := by unfold nameB; rw [decide_eq_true_eq]
theorem nameB_no {l : List UInt8} (h : ¬ (0 < l.length ∧ l.length ≤ 60 ∧ startB (Bl l 0) = true ∧ badFrom l 0 < 0 ∧ ∀ i, i < l.length → partB (Bl l i) = true)) : nameB l = false := by
  cases hb : nameB l
  · rfl
  · exact absurd (nameB_iff.1 hb) h
theorem isEmpty_of {s : ByteArray} (h : s.size = 0) : s.toList.isEmpty = true := by
  rw [Lib.toList_data, List.isEmpty_iff]; exact List.eq_nil_of_length_eq_zero (by simpa using h)
theorem not_isEmpty_of {s : ByteArray} (h : 0 < s.size) : s.toList.isEmpty = false := by
  rw [Lib.toList_data]
  cases hc : s.data.toList with
  | nil => rw [Lib.size_eq, hc] at h; simp at h
  | cons a b => rfl
theorem name_any (s : ByteArray) (w : World) (hs : s.size ≤ maxLen) :
    Calls Try.prog 57 #[.string s] w fun e w' => e = .returned (.bool (nameB s.data.toList)) ∧ w = w' := by
  have hs' := hs
  unfold maxLen at hs
  have Hs := Lib.hid hs'
  clear hs'
  by_cases h0 : s.size = 0
  · have hf := nameB_no (l := s.data.toList) (by simp; omega)
    have Hf := Lib.hid hf
    clear hf
    have he := isEmpty_of h0
    clear h0
    go_enter Try.func57, Try.ntmps57
    go_wp2_with fail
    go_ret
    exact ⟨by rw [Hf.out]; rfl, rfl⟩
  · have he := not_isEmpty_of (show 0 < s.size by omega)
    have hpos : 0 < s.size := by omega
    clear h0
    by_cases h60 : (60 : Int) < s.size
    · have hf := nameB_no (l := s.data.toList) (by simp; omega)
      have Hf := Lib.hid hf
      clear hf
      go_enter Try.func57, Try.ntmps57
      go_wp2_with fail
      go_ret
      exact ⟨by rw [Hf.out]; rfl, rfl⟩
    · obtain ⟨b, HB, hx, lo, hi, hs0⟩ := byte_of s 0 hpos
      have hst := start_any b lo hi
      cases hsb : startB b
      · rw [hsb] at hst
        have Hst := Lib.hid hst
        clear hst
        have hf := nameB_no (l := s.data.toList) (by rw [← HB.out, hsb]; simp)
        have Hf := Lib.hid hf
        clear hf hsb
        go_enter Try.func57, Try.ntmps57
        go_wp2_with (go_at_call 74; refine (Hst.out _).mono ?_; rintro e w' ⟨rfl, rfl⟩)
        go_ret
        exact ⟨by rw [Hf.out]; rfl, rfl⟩
      · rw [hsb] at hst
        have Hst := Lib.hid hst
        have Hsb := Lib.hid hsb
        clear hst hsb
        have hbad := bad_any s
        obtain ⟨q, hq⟩ : ∃ q, q = badFrom s.data.toList 0 := ⟨_, rfl⟩
        rw [← hq] at hbad
        have Hbad := Lib.hid hbad
        have Hq := Lib.hid hq
        clear hbad hq
        by_cases hq0 : 0 ≤ q
        · have hf := nameB_no (l := s.data.toList) (by rw [← Hq.out]; omega)
          have Hf := Lib.hid hf
          clear hf
          go_enter Try.func57, Try.ntmps57
          go_wp2_with (first | (go_at_call 74; refine (Hst.out _).mono ?_; rintro e w' ⟨rfl, rfl⟩) | (go_at_call 75; refine (Hbad.out _ Hs.out).mono ?_; rintro e w' ⟨rfl, rfl⟩))
          go_ret
          exact ⟨by rw [Hf.out]; rfl, rfl⟩
        · have hq1 : q < 0 := by omega
          clear hq0
          go_enter Try.func57, Try.ntmps57
          go_wp2_with (first | (go_at_call 74; refine (Hst.out _).mono ?_; rintro e w' ⟨rfl, rfl⟩) | (go_at_call 75; refine (Hbad.out _ Hs.out).mono ?_; rintro e w' ⟨rfl, rfl⟩))
          go_loop [24] (fun a => ∃ k : Nat, k ≤ s.size ∧ a = .int .i64 k ∧ Hid (∀ i, i < k → partB (Bl s.data.toList i) = true)) (fun a => s.size - (intOf a).toNat)
          case atStart => exact ⟨0, by omega, rfl, fun i hi => by omega⟩
          case round =>
            obtain ⟨k, hk, rfl, hinv⟩ := hrel
            by_cases hlt : k < s.size
            · obtain ⟨c, HC, hxc, loc, hic, hsk⟩ := byte_of s k hlt
              have hpt := part_any c loc hic
              cases hpb : partB c
              · rw [hpb] at hpt
                have Hpt := Lib.hid hpt
                clear hpt
                have hf := nameB_no (l := s.data.toList) (fun h => by
                  have := h.2.2.2.2 k (by simpa using hlt)
                  rw [← HC.out, hpb] at this
                  cases this)
                have Hf := Lib.hid hf
                clear hf hpb
                go_wp2_with (go_at_call 76; refine (Hpt.out _).mono ?_; rintro e w' ⟨rfl, rfl⟩)
                go_ret
                exact ⟨by rw [Hf.out]; rfl, rfl⟩
              · rw [hpb] at hpt
                have Hpt := Lib.hid hpt
                have hinv' : Hid (∀ i, i < k + 1 → partB (Bl s.data.toList i) = true) := fun i hi => by
                  by_cases hik : i = k
                  · rw [hik, ← HC.out]; exact hpb
                  · exact hinv i (by omega)
                clear hpt hpb hinv
                go_wp2_with (go_at_call 76; refine (Hpt.out _).mono ?_; rintro e w' ⟨rfl, rfl⟩)
                go_round
                case rel => exact ⟨k + 1, by omega, by go_num, hinv'⟩
                case measure => simp [intOf]; omega
            · have hf := nameB_iff (l := s.data.toList).2 ⟨by simpa using hpos, by simp; omega, by rw [← HB.out]; exact Hsb.out, by rw [← Hq.out]; exact hq1, fun i hi => hinv i (by simp at hi; omega)⟩
              have Hf := Lib.hid hf
              clear hf
              go_wp2_with fail
              go_ret
              exact ⟨by rw [Hf.out]; rfl, rfl⟩
set_option maxHeartbeats 1000000 in
theorem rname_any (s : ByteArray) (w : World) (hs : s.size ≤ maxLen) :
    Calls Try.prog 28 #[.string s] w fun e w' => e = .returned (.bool (nameB s.data.toList)) ∧ Below w.heap.size w w' := by
  have hs' := hs
  unfold maxLen at hs
  have Hs := Lib.hid hs'
  clear hs'
  by_cases h0 : s.size = 0
  · have hf := nameB_no (l := s.data.toList) (by simp; omega)
    have Hf := Lib.hid hf
    clear hf
    have he := isEmpty_of h0
    clear h0
    go_enter Try.func28, Try.ntmps28
    go_wp2_with fail
    go_ret
    exact ⟨by rw [Hf.out]; rfl, Below.refl _ _⟩
  · have he := not_isEmpty_of (show 0 < s.size by omega)
    have hpos : 0 < s.size := by omega
    clear h0
    by_cases h60 : (60 : Int) < s.size
    · have hf := nameB_no (l := s.data.toList) (by simp; omega)
      have Hf := Lib.hid hf
      clear hf
      go_enter Try.func28, Try.ntmps28
      go_wp2_with fail
      go_ret
      exact ⟨by rw [Hf.out]; rfl, Below.refl _ _⟩
    · have hbad := rbad_any s
      obtain ⟨q, hq⟩ : ∃ q, q = badFrom s.data.toList 0 := ⟨_, rfl⟩
      rw [← hq] at hbad
      have Hbad := Lib.hid hbad
      have Hq := Lib.hid hq
      clear hbad hq
      by_cases hq0 : 0 ≤ q
      · have hf := nameB_no (l := s.data.toList) (by rw [← Hq.out]; omega)
        have Hf := Lib.hid hf
        clear hf
        go_enter Try.func28, Try.ntmps28
        go_wp2_with fail
        refine (Hbad.out _ Hs.out).mono ?_
        rintro e w1 ⟨rfl, hb1⟩
        go_wp2_with fail
        go_ret
        exact ⟨by rw [Hf.out]; rfl, hb1⟩
      · have hq1 : q < 0 := by omega
        clear hq0
        go_enter Try.func28, Try.ntmps28
        go_wp2_with fail
        refine (Hbad.out _ Hs.out).mono ?_
        rintro e w1 ⟨rfl, hb1⟩
        go_wp2_with fail
        go_loop [3] (fun a => ∃ k : Nat, k ≤ s.size ∧ a = .int .i64 k ∧ Hid (∀ i, i < k → partB (Bl s.data.toList i) = true ∧ (i = 0 → startB (Bl s.data.toList i) = true))) (fun a => s.size - (intOf a).toNat)
        case atStart => exact ⟨0, by omega, rfl, fun i hi => by omega⟩
        case round =>
          obtain ⟨k, hk, rfl, hinv⟩ := hrel
          by_cases hlt : k < s.size
          · obtain ⟨c, HC, hxc, loc, hic, hsk⟩ := byte_of s k hlt
            by_cases good : startB c = true ∨ (0 < k ∧ partB c = true)
            · have hinv' : Hid (∀ i, i < k + 1 → partB (Bl s.data.toList i) = true ∧ (i = 0 → startB (Bl s.data.toList i) = true)) := fun i hi => by
                by_cases hik : i = k
                · rw [hik, ← HC.out]
                  rcases good with g | ⟨g0, g⟩
                  · exact ⟨part_of_start g, fun _ => g⟩
                  · exact ⟨g, fun h => by omega⟩
                · exact hinv i (by omega)
              clear hinv
              have hcase : (97 ≤ c ∧ c ≤ 122 ∨ 65 ≤ c ∧ c ≤ 90 ∨ c = 95 ∨ 128 ≤ c) ∨ (0 < k ∧ (48 ≤ c ∧ c ≤ 57 ∨ c = 45 ∨ c = 46)) := by
                rcases good with g | ⟨g0, g⟩
                · exact .inl (startB_iff.1 g)
                · rcases partB_iff.1 g with g | g
                  · exact .inl g
                  · exact .inr ⟨g0, g⟩
              clear good
              rcases hcase with hc | ⟨g0, hc⟩
              · rcases hc with ⟨c1, c2⟩ | ⟨c1, c2⟩ | c1 | c1
                all_goals
                  first | subst c1 | skip
                  go_wp2_with fail
                  go_round
                  case rel => exact ⟨k + 1, by omega, by go_num, hinv'⟩
                  case measure => simp [intOf]; omega
              · have hk0 : ((k : Int) == 0) = false := by simp; omega
                rcases hc with ⟨c1, c2⟩ | c1 | c1
                all_goals
                  first | subst c1 | skip
                  go_wp2_with fail
                  go_round
                  case rel => exact ⟨k + 1, by omega, by go_num, hinv'⟩
                  case measure => simp [intOf]; omega
            · have hf := nameB_no (l := s.data.toList) (fun h => good (by
                by_cases hk0 : k = 0
                · left; have := h.2.2.1; rw [← hk0, ← HC.out] at this; exact this
                · right; have := h.2.2.2.2 k (by simpa using hlt); rw [← HC.out] at this; exact ⟨by omega, this⟩))
              have Hf := Lib.hid hf
              clear hf
              have hbadc : ¬ ((97 ≤ c ∧ c ≤ 122 ∨ 65 ≤ c ∧ c ≤ 90 ∨ c = 95 ∨ 128 ≤ c)) := fun h => good (.inl (startB_iff.2 h))
              have hbadk : k = 0 ∨ ¬ (48 ≤ c ∧ c ≤ 57 ∨ c = 45 ∨ c = 46) := by
                by_cases hk0 : k = 0
                · exact .inl hk0
                · exact .inr fun h => good (.inr ⟨by omega, partB_iff.2 (.inr h)⟩)
              clear good hinv
              have Hbc := Lib.hid hbadc
              rcases hbadk with hk0 | hbk
              · subst hk0
                go_wp2_with fail
                all_goals
                  first
                  | (go_ret; exact ⟨by rw [Hf.out]; rfl, hb1⟩)
                  | (exfalso; rename_i hlast; simp at hlast; have := Hbc.out; omega)
              · by_cases hk0 : k = 0
                · subst hk0
                  go_wp2_with fail
                  all_goals
                    first
                    | (go_ret; exact ⟨by rw [Hf.out]; rfl, hb1⟩)
                    | (exfalso; rename_i hlast; simp at hlast; have := Hbc.out; omega)
                · have hk1 : ((k : Int) == 0) = false := by simp; omega
                  have Hbk := Lib.hid hbk
                  go_wp2_with fail
                  all_goals
                    first
                    | (go_ret; exact ⟨by rw [Hf.out]; rfl, hb1⟩)
                    | (exfalso; rename_i hlast; simp at hlast; have := Hbc.out; have := Hbk.out; omega)
          · have hf := nameB_iff (l := s.data.toList).2 ⟨by simpa using hpos, by simp; omega, (hinv 0 (by omega)).2 rfl, by rw [← Hq.out]; exact hq1, fun i hi => (hinv i (by simp at hi; omega)).1⟩
            have Hf := Lib.hid hf
            clear hf
            go_wp2_with fail
            go_ret
            exact ⟨by rw [Hf.out]; rfl, hb1⟩
end Go.Proofs.Ytljmghaplnkohaa.Nm
