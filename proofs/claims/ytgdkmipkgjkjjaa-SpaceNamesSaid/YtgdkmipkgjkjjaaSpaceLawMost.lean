/- The walk of the law SpaceMost. -/
import Derived.Test.YtgdkmipkgjkjjaaSpaceE
namespace Go.Proofs.Ytgdkmipkgjkjjaa
open Go.RowKit

theorem and_mask (n : Int) (m : Nat) (hm : m < 9223372036854775808) : 0 ≤ bits BinOp.and IntKind.i64 n (m : Int) ∧ bits BinOp.and IntKind.i64 n (m : Int) ≤ m := by
  have e : bits BinOp.and IntKind.i64 n (m : Int) = IntKind.i64.wrap ((BitVec.ofInt 64 n &&& BitVec.ofInt 64 (m : Int)).toNat : Int) := rfl
  have h : (BitVec.ofInt 64 n &&& BitVec.ofInt 64 (m : Int)).toNat ≤ m := by
    rw [BitVec.toNat_and, ofInt_i64 m hm]
    exact Nat.and_le_right
  rw [e, IntKind.wrap_i64]
  omega
/-- One more bind of p. -/
theorem enterF_p (d : Int) (bs : List Bind) (h : bs.length < 100) : enterF d [(atP, oneU)] bs [] = (bs ++ [(⟨#[112]⟩, oneU, d)], [], 0) := by
  have ht : tellsV atP = some ⟨#[112]⟩ := by decide +kernel
  have hb : badP ⟨#[112]⟩ oneU = false := by decide +kernel
  unfold enterF
  rw [ht]
  simp only [hb]
  rw [if_neg (by simp), if_neg (by omega), enterF]
theorem enterF_big (d : Int) (bs : List Bind) (h : 100 ≤ bs.length) : enterF d [(atP, oneU)] bs [] = (bs, [], 5) := by
  have ht : tellsV atP = some ⟨#[112]⟩ := by decide +kernel
  have hb : badP ⟨#[112]⟩ oneU = false := by decide +kernel
  unfold enterF
  rw [ht]
  simp only [hb]
  rw [if_neg (by simp), if_pos h]

/-- What holds at each round's head. -/
def InMost (w : World) (g : Nat) (k : Int) (ev mv iv : Value) (wr : World) : Prop :=
  ∃ i : Nat, (i : Int) ≤ k ∧ i ≤ 99 ∧ iv = .int .i64 i ∧ Below w.heap.size w wr ∧
    ((ev = .int .i64 0 ∧ i ≤ 98 ∧ mv = .int .i64 (2 + (i : Int)) ∧ ∃ A cap bs, Sp wr w.heap.size g A cap bs i ∧ bs.length = 2 + i) ∨
     (ev = .int .i64 5 ∧ mv = .int .i64 100 ∧ i = 99))

set_option maxHeartbeats 1000000 in
theorem spaceMost_walk (a0 : Int) (_w0 : (Lit.int .i64 a0).wf = true) (w : World) :
    Calls Try.prog 9 #[.int .i64 a0] w fun e w' => e = .returned (.bool true) ∧ Below w.heap.size w w' := by
  clear _w0
  obtain ⟨hk0, hk1⟩ := and_mask a0 127 (by omega)
  obtain ⟨k, hk⟩ : ∃ k, bits BinOp.and IntKind.i64 a0 127 = k := ⟨_, rfl⟩
  have hk0' : 0 ≤ k := by rw [← hk]; exact hk0
  have hk1' : k ≤ 127 := by rw [← hk]; exact hk1
  clear hk0 hk1
  go_enter Try.func9, Try.ntmps9
  go_wp2_with fail
  refine (new_any _).mono ?_
  rintro e w1 ⟨rfl, hb1, hSp, hz1⟩
  have HSp := Lib.hid hSp
  have Hb1 := Lib.hid hb1
  clear hSp hb1 hz1
  go_wp2_with fail
  have HK := Lib.hid hk
  clear hk
  go_loopw [5, 6, 7] (fun ev mv iv wr => InMost w (w.heap.size + 1) k ev mv iv wr) (fun _ _ iv _ => (k - intOf iv).toNat)
  case atStart => exact ⟨0, by omega, by omega, rfl, Hb1.out, .inl ⟨rfl, by omega, rfl, _, _, _, HSp.out, rfl⟩⟩
  case round =>
    obtain ⟨i, hik, hi99, rfl, hbw, hcase⟩ := hrel
    have Hbw := Lib.hid hbw
    clear hbw
    rcases hcase with ⟨rfl, hi98, rfl, A, cap, bs, hS, hlen⟩ | ⟨rfl, rfl, rfl⟩
    · have HS := Lib.hid hS
      have Hlen := Lib.hid hlen
      clear hS hlen
      by_cases hlt : (i : Int) < k
      · go_wp2_with fail
        refine (enter_any (HS.out.alloc _) (by omega) (by omega) (by have := Hlen.out; omega) [(atP, oneU)] wr.heap.size 1 (flatA [(atP, oneU)]).toArray (heap_alloc_new wr _) (attrs_at _) (by decide)).mono ?_
        rintro e w2 ⟨ov, A2, cap2, rfl, hSp2, hO2, hF2, hA2⟩
        have hb2 : Below w.heap.size wr w2 := by
          have hl := HS.out.lt
          have hs := Hbw.out.size
          exact Below.trans ((Below.refl w.heap.size wr).alloc hs (.cells (flatA [(atP, oneU)]).toArray 47)) (hF2.to_below (B := w.heap.size) (by omega) (by omega) (by simp; omega))
        have Hb2 := Lib.hid (Hbw.out.trans hb2)
        clear hb2 hF2 hA2 hO2
        by_cases h98 : i < 98
        · have hE := enterF_p ((i : Int) + 1) bs (by have := Hlen.out; omega)
          rw [hE] at hSp2 ⊢
          have HSp2 := Lib.hid hSp2
          clear hSp2 hE
          go_wp2_with fail
          go_roundw
          case rel => exact ⟨i + 1, by omega, by omega, by go_num, Hb2.out, .inl ⟨rfl, by omega, by go_num, A2, cap2, _, by have := HSp2.out; rwa [show ((i + 1 : Nat) : Int) = (i : Int) + 1 by omega], by have := Hlen.out; simp; omega⟩⟩
          case measure => simp [intOf]; omega
        · have hi : i = 98 := by omega
          have hE := enterF_big ((i : Int) + 1) bs (by have := Hlen.out; omega)
          rw [hE] at hSp2 ⊢
          subst hi
          clear hSp2 hE
          go_wp2_with fail
          go_roundw
          case rel => exact ⟨99, by omega, by omega, rfl, Hb2.out, .inr ⟨rfl, rfl, rfl⟩⟩
          case measure => simp [intOf]; omega
      · have hki : k = i := by omega
        have h100 : k + 2 ≤ 100 := by omega
        have h2i : 2 + (i : Int) ≤ 100 := by omega
        clear hki
        go_wp2_with fail
        refine (space_awake _).mono ?_
        rintro e w3 ⟨rfl, hb3⟩
        go_wp2_with fail
        go_ret
        exact ⟨rfl, Hbw.out.trans (hb3.mono Hbw.out.size)⟩
    · have h100 : ¬ k + 2 ≤ 100 := by omega
      by_cases hlt : (99 : Int) < k
      all_goals
        go_wp2_with fail
        refine (space_awake _).mono ?_
        rintro e w3 ⟨rfl, hb3⟩
        go_wp2_with fail
        go_ret
        exact ⟨ret_bool (by simp; omega), Hbw.out.trans (hb3.mono Hbw.out.size)⟩
end Go.Proofs.Ytgdkmipkgjkjjaa
