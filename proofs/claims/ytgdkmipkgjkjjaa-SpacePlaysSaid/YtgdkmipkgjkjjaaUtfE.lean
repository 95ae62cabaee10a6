/- The contract of galliardref01.Get. -/
import Derived.Test.YtgdkmipkgjkjjaaUtfC
import Derived.BigQuiet
import Derived.Deep.RegionWith
import Derived.Lib.Bytes
namespace Go.Proofs.Ytgdkmipkgjkjjaa
open Go.RowKit

/-- The number that so many bytes would be. -/
@[irreducible] def rN (l : List UInt8) (n : Nat) : Int :=
  if n = 1 then Bl l 0
  else if n = 2 then (Bl l 0 - 192) * 64 + Bl l 1 - 128
  else if n = 3 then (Bl l 0 - 224) * 4096 + (Bl l 1 - 128) * 64 + Bl l 2 - 128
  else (Bl l 0 - 240) * 262144 + (Bl l 1 - 128) * 4096 + (Bl l 2 - 128) * 64 + Bl l 3 - 128
/-- Are these the letter's bytes? -/
@[irreducible] def hit (l : List UInt8) (n : Nat) : Bool := decide (n ≤ l.length) && (Lib.bytesOf (putI (rN l n)) == l.take n)
/-- The letter that a text begins with, found by trying. -/
@[irreducible] def getR (l : List UInt8) : Int × Int :=
  if hit l 1 = true then (rN l 1, 1) else if hit l 2 = true then (rN l 2, 2) else if hit l 3 = true then (rN l 3, 3) else if hit l 4 = true then (rN l 4, 4) else (0, 0)
theorem hit_eq (s : ByteArray) (n : Nat) (h : n ≤ s.size) (r : Int) (hr : r = rN s.data.toList n) : ((strOfNums (putI r)).toList == (s.extract 0 n).toList) = hit s.data.toList n := by
  unfold hit
  rw [hr, Lib.strOfNums_toList, Lib.extract_toList, decide_eq_true (by simpa using h)]
  simp
theorem hit_short (l : List UInt8) (n : Nat) (h : l.length < n) : hit l n = false := by
  unfold hit
  rw [decide_eq_false (by omega)]
  rfl
theorem getR_hit (l : List UInt8) (n : Nat) (h1 : 1 ≤ n) (h4 : n ≤ 4) (hm : ∀ m, 1 ≤ m → m < n → hit l m = false) (h : hit l n = true) : getR l = (rN l n, (n : Int)) := by
  unfold getR
  have : n = 1 ∨ n = 2 ∨ n = 3 ∨ n = 4 := by omega
  rcases this with rfl | rfl | rfl | rfl
  · rw [if_pos h]; rfl
  · rw [if_neg (by rw [hm 1 (by omega) (by omega)]; simp), if_pos h]; rfl
  · rw [if_neg (by rw [hm 1 (by omega) (by omega)]; simp), if_neg (by rw [hm 2 (by omega) (by omega)]; simp), if_pos h]; rfl
  · rw [if_neg (by rw [hm 1 (by omega) (by omega)]; simp), if_neg (by rw [hm 2 (by omega) (by omega)]; simp), if_neg (by rw [hm 3 (by omega) (by omega)]; simp), if_pos h]; rfl
theorem getR_none (l : List UInt8) (n : Nat) (hl : n = 5 ∨ l.length < n) (hm : ∀ m, 1 ≤ m → m < n → hit l m = false) : getR l = (0, 0) := by
  have h : ∀ m, 1 ≤ m → m ≤ 4 → hit l m = false := fun m h1 h4 => by
    by_cases hlt : m < n
    · exact hm m h1 hlt
    · exact hit_short l m (by omega)
  unfold getR
  rw [if_neg (by rw [h 1 (by omega) (by omega)]; simp), if_neg (by rw [h 2 (by omega) (by omega)]; simp), if_neg (by rw [h 3 (by omega) (by omega)]; simp), if_neg (by rw [h 4 (by omega) (by omega)]; simp)]
/-- The bytes of a text that are there, each as a number of its own. -/
theorem byte_of (s : ByteArray) (k : Nat) (h : k < s.size) : ∃ b : Int, Hid (b = Bl s.data.toList k) ∧ ((s[k].toNat : Nat) : Int) = b ∧ 0 ≤ b ∧ b < 256 ∧ (k : Int) < s.size :=
  ⟨Bl s.data.toList k, rfl, Bl_get s k h, Bl_lo _ _, Bl_hi _ _, by omega⟩

theorem step_below {B n : Nat} {w wr w1 : World} (h : Below B w wr) (h1 : Below ((wr.drewN n).heap.size) (wr.drewN n) w1) (hB : w.heap.size = B) : Below B w w1 := by
  have h2 : Below B w (wr.drewN n) := ⟨h.os, h.tape, h.output, h.size, h.block⟩
  exact h2.trans (h1.mono (by have := h.size; simp; omega))
theorem step_below1 {B : Nat} {w wr w1 : World} (h : Below B w wr) (h1 : Below (wr.drew.heap.size) wr.drew w1) (hB : w.heap.size = B) : Below B w w1 :=
  h.drew.trans (h1.mono (by have := h.size; simp; omega))

set_option maxRecDepth 100000 in
set_option maxHeartbeats 1000000 in
theorem rget_any (s : ByteArray) (w : World) (hs : s.size ≤ maxLen) :
    Calls Try.prog 18 #[.string s] w fun e w' => e = .returned (.tuple #[.int .i64 (getR s.data.toList).1, .int .i64 (getR s.data.toList).2]) ∧ Below w.heap.size w w' := by
  unfold maxLen at hs
  go_enter Try.func18, Try.ntmps18
  go_wp2_with fail
  go_loopw [4] (fun v wr => ∃ n : Int, 1 ≤ n ∧ n ≤ 5 ∧ v = .int .i64 n ∧ Below w.heap.size w wr ∧ Hid (∀ m : Nat, 1 ≤ m → (m : Int) < n → hit s.data.toList m = false)) (fun v _ => (5 - intOf v).toNat)
  case atStart => exact ⟨1, by omega, by omega, rfl, Below.refl _ _, fun m h1 h2 => by omega⟩
  case round =>
    obtain ⟨n, hn0, hn5, rfl, hbw, hmiss⟩ := hrel
    by_cases hlen : (s.size : Int) < n
    · have hfin : getR s.data.toList = (0, 0) := getR_none _ n.toNat (.inr (by simpa using (show s.size < n.toNat by omega))) (fun m h1 h2 => hmiss m h1 (by omega))
      have Hfin := Lib.hid hfin
      clear hfin
      by_cases h5 : n = 5
      · subst h5
        go_wp2_with fail
        go_ret2
        exact ⟨by rw [Hfin.out]; rfl, hbw⟩
      · have h4 : n ≤ 4 := by omega
        have hlen' : ¬ n ≤ (s.size : Int) := by omega
        go_wp2_with fail
        go_ret2
        exact ⟨by rw [Hfin.out]; rfl, hbw⟩
    · have : n = 1 ∨ n = 2 ∨ n = 3 ∨ n = 4 ∨ n = 5 := by omega
      rcases this with rfl | rfl | rfl | rfl | rfl
      · obtain ⟨b0, HB0, hx0, lo0, hi0, hs0⟩ := byte_of s 0 (by omega)
        have hr : b0 = rN s.data.toList 1 := by unfold rN; rw [if_pos rfl, HB0.out]
        have ht := hit_eq s 1 (by omega) (b0) hr
        have Hr := Lib.hid hr
        clear hr
        cases hh : hit s.data.toList 1
        · rw [hh] at ht
          have hmiss' : Hid (∀ m : Nat, 1 ≤ m → (m : Int) < 1 + 1 → hit s.data.toList m = false) := by
            intro m h1 h2
            by_cases hmn : m = 1
            · rw [hmn]; exact hh
            · exact hmiss m h1 (by omega)
          clear hh hmiss
          go_wp2_with fail
          go_region_with (go_at_call 12; refine (rput_any _ _).mono ?_; rintro e w1 ⟨rfl, hb1⟩)
          go_wp2_with fail
          go_roundw
          case rel => exact ⟨2, by omega, by omega, rfl, (by first | exact step_below1 hbw hb1 rfl | exact step_below hbw hb1 rfl), hmiss'⟩
          case measure => simp [intOf]
        · rw [hh] at ht
          have hfin := getR_hit s.data.toList 1 (by omega) (by omega) (fun m h1 h2 => hmiss m h1 (by omega)) hh
          rw [← Hr.out] at hfin
          have Hfin := Lib.hid hfin
          clear hfin hh
          go_wp2_with fail
          go_region_with (go_at_call 12; refine (rput_any _ _).mono ?_; rintro e w1 ⟨rfl, hb1⟩)
          go_wp2_with fail
          go_ret2
          exact ⟨by rw [Hfin.out]; rfl, (by first | exact step_below1 hbw hb1 rfl | exact step_below hbw hb1 rfl)⟩
      · obtain ⟨b0, HB0, hx0, lo0, hi0, hs0⟩ := byte_of s 0 (by omega)
        obtain ⟨b1, HB1, hx1, lo1, hi1, hs1⟩ := byte_of s 1 (by omega)
        have hr : (b0 - 192) * 64 + b1 - 128 = rN s.data.toList 2 := by unfold rN; rw [if_neg (by omega), if_pos rfl, HB0.out, HB1.out]
        have ht := hit_eq s 2 (by omega) ((b0 - 192) * 64 + b1 - 128) hr
        have Hr := Lib.hid hr
        clear hr
        cases hh : hit s.data.toList 2
        · rw [hh] at ht
          have hmiss' : Hid (∀ m : Nat, 1 ≤ m → (m : Int) < 2 + 1 → hit s.data.toList m = false) := by
            intro m h1 h2
            by_cases hmn : m = 2
            · rw [hmn]; exact hh
            · exact hmiss m h1 (by omega)
          clear hh hmiss
          go_wp2_with fail
          go_quiet (fail)
          go_wp2_with fail
          go_region_with (go_at_call 12; refine (rput_any _ _).mono ?_; rintro e w1 ⟨rfl, hb1⟩)
          go_wp2_with fail
          go_roundw
          case rel => exact ⟨3, by omega, by omega, rfl, (by first | exact step_below1 hbw hb1 rfl | exact step_below hbw hb1 rfl), hmiss'⟩
          case measure => simp [intOf]
        · rw [hh] at ht
          have hfin := getR_hit s.data.toList 2 (by omega) (by omega) (fun m h1 h2 => hmiss m h1 (by omega)) hh
          rw [← Hr.out] at hfin
          have Hfin := Lib.hid hfin
          clear hfin hh
          go_wp2_with fail
          go_quiet (fail)
          go_wp2_with fail
          go_region_with (go_at_call 12; refine (rput_any _ _).mono ?_; rintro e w1 ⟨rfl, hb1⟩)
          go_wp2_with fail
          go_ret2
          exact ⟨by rw [Hfin.out]; rfl, (by first | exact step_below1 hbw hb1 rfl | exact step_below hbw hb1 rfl)⟩
      · obtain ⟨b0, HB0, hx0, lo0, hi0, hs0⟩ := byte_of s 0 (by omega)
        obtain ⟨b1, HB1, hx1, lo1, hi1, hs1⟩ := byte_of s 1 (by omega)
        obtain ⟨b2, HB2, hx2, lo2, hi2, hs2⟩ := byte_of s 2 (by omega)
        have hr : (b0 - 224) * 4096 + (b1 - 128) * 64 + b2 - 128 = rN s.data.toList 3 := by unfold rN; rw [if_neg (by omega), if_neg (by omega), if_pos rfl, HB0.out, HB1.out, HB2.out]
        have ht := hit_eq s 3 (by omega) ((b0 - 224) * 4096 + (b1 - 128) * 64 + b2 - 128) hr
        have Hr := Lib.hid hr
        clear hr
        cases hh : hit s.data.toList 3
        · rw [hh] at ht
          have hmiss' : Hid (∀ m : Nat, 1 ≤ m → (m : Int) < 3 + 1 → hit s.data.toList m = false) := by
            intro m h1 h2
            by_cases hmn : m = 3
            · rw [hmn]; exact hh
            · exact hmiss m h1 (by omega)
          clear hh hmiss
          go_wp2_with fail
          go_quiet (fail)
          go_wp2_with fail
          go_region_with (go_at_call 12; refine (rput_any _ _).mono ?_; rintro e w1 ⟨rfl, hb1⟩)
          go_wp2_with fail
          go_roundw
          case rel => exact ⟨4, by omega, by omega, rfl, (by first | exact step_below1 hbw hb1 rfl | exact step_below hbw hb1 rfl), hmiss'⟩
          case measure => simp [intOf]
        · rw [hh] at ht
          have hfin := getR_hit s.data.toList 3 (by omega) (by omega) (fun m h1 h2 => hmiss m h1 (by omega)) hh
          rw [← Hr.out] at hfin
          have Hfin := Lib.hid hfin
          clear hfin hh
          go_wp2_with fail
          go_quiet (fail)
          go_wp2_with fail
          go_region_with (go_at_call 12; refine (rput_any _ _).mono ?_; rintro e w1 ⟨rfl, hb1⟩)
          go_wp2_with fail
          go_ret2
          exact ⟨by rw [Hfin.out]; rfl, (by first | exact step_below1 hbw hb1 rfl | exact step_below hbw hb1 rfl)⟩
      · obtain ⟨b0, HB0, hx0, lo0, hi0, hs0⟩ := byte_of s 0 (by omega)
        obtain ⟨b1, HB1, hx1, lo1, hi1, hs1⟩ := byte_of s 1 (by omega)
        obtain ⟨b2, HB2, hx2, lo2, hi2, hs2⟩ := byte_of s 2 (by omega)
        obtain ⟨b3, HB3, hx3, lo3, hi3, hs3⟩ := byte_of s 3 (by omega)
        have hr : (b0 - 240) * 262144 + (b1 - 128) * 4096 + (b2 - 128) * 64 + b3 - 128 = rN s.data.toList 4 := by unfold rN; rw [if_neg (by omega), if_neg (by omega), if_neg (by omega), HB0.out, HB1.out, HB2.out, HB3.out]
        have ht := hit_eq s 4 (by omega) ((b0 - 240) * 262144 + (b1 - 128) * 4096 + (b2 - 128) * 64 + b3 - 128) hr
        have Hr := Lib.hid hr
        clear hr
        cases hh : hit s.data.toList 4
        · rw [hh] at ht
          have hmiss' : Hid (∀ m : Nat, 1 ≤ m → (m : Int) < 4 + 1 → hit s.data.toList m = false) := by
            intro m h1 h2
            by_cases hmn : m = 4
            · rw [hmn]; exact hh
            · exact hmiss m h1 (by omega)
          clear hh hmiss
          go_wp2_with fail
          go_quiet (fail)
          go_wp2_with fail
          go_region_with (go_at_call 12; refine (rput_any _ _).mono ?_; rintro e w1 ⟨rfl, hb1⟩)
          go_wp2_with fail
          go_roundw
          case rel => exact ⟨5, by omega, by omega, rfl, (by first | exact step_below1 hbw hb1 rfl | exact step_below hbw hb1 rfl), hmiss'⟩
          case measure => simp [intOf]
        · rw [hh] at ht
          have hfin := getR_hit s.data.toList 4 (by omega) (by omega) (fun m h1 h2 => hmiss m h1 (by omega)) hh
          rw [← Hr.out] at hfin
          have Hfin := Lib.hid hfin
          clear hfin hh
          go_wp2_with fail
          go_quiet (fail)
          go_wp2_with fail
          go_region_with (go_at_call 12; refine (rput_any _ _).mono ?_; rintro e w1 ⟨rfl, hb1⟩)
          go_wp2_with fail
          go_ret2
          exact ⟨by rw [Hfin.out]; rfl, (by first | exact step_below1 hbw hb1 rfl | exact step_below hbw hb1 rfl)⟩
      · have hfin : getR s.data.toList = (0, 0) := getR_none _ 5 (.inl rfl) (fun m h1 h2 => hmiss m h1 (by omega))
        have Hfin := Lib.hid hfin
        clear hfin
        go_wp2_with fail
        go_ret2
        exact ⟨by rw [Hfin.out]; rfl, hbw⟩
end Go.Proofs.Ytgdkmipkgjkjjaa
