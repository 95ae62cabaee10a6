/- awake of layer 10. -/
import Derived.Test.YtljmghaplnkohaaRulAR
namespace Go.Proofs.Ytljmghaplnkohaa
open Go.RowKit

theorem count_nil (w : World) (k : Int) : Calls Try.prog 68 #[.slice none 0 0, .int .i64 k] w fun e w' => e = .returned (.int .i64 0) ∧ w = w' := by
  go_enter Try.func68, Try.ntmps68
  go_wp2_with fail
  refine wp_loop_rounds 1 ?_
  rw [rounds_succ]
  go_wp2_with fail
  go_ret
  exact ⟨rfl, rfl⟩
theorem level_nil (w : World) (A1 A2 : Option Addr) (n1 n2 c1 c2 : Nat) : Calls Try.prog 51 #[.agg #[.slice A1 n1 c1, .slice A2 n2 c2], .agg #[.string ⟨#[]⟩, .slice none 0 0, .slice none 0 0, .slice none 0 0, .slice none 0 0], .slice none 0 0, .slice none 0 0, .bool false] w fun e w' => e = .returned (.tuple #[.int .i64 1, .string ⟨#[]⟩]) ∧ Below w.heap.size w w' := by
  go_enter Try.func51, Try.ntmps51
  go_wp2_with fail
  refine (count_nil _ 1).mono ?_
  rintro e w1 ⟨rfl, rfl⟩
  go_wp2_with fail
  go_ret2
  exact ⟨rfl, ((Below.refl _ _).alloc (Nat.le_refl _) _).alloc (by simp) _⟩
theorem chor_nil (w : World) : Calls Try.prog 30 #[.agg #[.slice none 0 0, .slice none 0 0], .agg #[.string ⟨#[]⟩, .slice none 0 0, .slice none 0 0, .slice none 0 0, .slice none 0 0]] w fun e w' => e = .returned (.tuple #[.int .i64 1, .string ⟨#[]⟩]) ∧ Below w.heap.size w w' := by
  have hlv := fun W => level_nil W none none 0 0 0 0
  have HLV := Lib.hid hlv
  clear hlv
  go_enter Try.func30, Try.ntmps30
  go_wp2_with fail
  refine (HLV.out _).mono ?_
  rintro e w1 ⟨rfl, hb1⟩
  go_wp2_with fail
  go_ret2
  exact ⟨rfl, (((Below.refl _ _).alloc (Nat.le_refl _) _).alloc (by simp) _).trans (hb1.mono (by simp; omega))⟩
def seqA : SeqD := ⟨⟨#[115]⟩, ⟨#[97]⟩, ⟨#[98]⟩⟩
theorem rd_seqA (w : World) : Rd (w.alloc (.cells #[.string ⟨#[115]⟩, .string ⟨#[97]⟩, .string ⟨#[98]⟩] 33)) (seqsD [seqA]) (.slice (some ⟨w.heap.size, 0, none⟩) 1 1) := by
  refine rd_sl.2 ⟨_, _, [.string ⟨#[115]⟩, .string ⟨#[97]⟩, .string ⟨#[98]⟩], rfl, ?_, ?_⟩
  · exact World.ownsRow_lit (base := 0) (size := 3) w #[.string ⟨#[115]⟩, .string ⟨#[97]⟩, .string ⟨#[98]⟩] 1 (by omega) (by unfold maxLen; omega) rfl
  · exact rdl_cons.2 ⟨_, _, rfl, rd_str.2 rfl, rdl_cons.2 ⟨_, _, rfl, rd_str.2 rfl, rdl_cons.2 ⟨_, _, rfl, rd_str.2 rfl, rdl_nil.2 rfl⟩⟩⟩
theorem awake_any (w : World) : Calls Try.prog 13 #[] w fun e w' => e = .returned (.bool true) ∧ Below w.heap.size w w' := by
  have e1 : cntN (fun x : SeqD => eqS x.dst ⟨#[98]⟩) [seqA] [seqA].length = 1 := by decide +kernel
  have e2 : cntN (fun x : SeqD => eqS x.src ⟨#[97]⟩) [seqA] [seqA].length = 1 := by decide +kernel
  have hin := fun (W : World) (v : Value) (hv : Rd W (seqsD [seqA]) v) => in_any ⟨#[98]⟩ hv
  have hout := fun (W : World) (v : Value) (hv : Rd W (seqsD [seqA]) v) => out_any ⟨#[97]⟩ hv
  rw [e1] at hin
  rw [e2] at hout
  have HIN := Lib.hid hin
  have HOUT := Lib.hid hout
  clear e1 e2 hin hout
  go_enter Try.func13, Try.ntmps13
  go_wp2_with fail
  refine (chor_nil _).mono ?_
  rintro e w1 ⟨rfl, hb1⟩
  have hr := rd_seqA w1
  have HR := Lib.hid hr
  have HB1 := Lib.hid hb1
  clear hr hb1
  go_wp2_with fail
  refine (HIN.out _ _ HR.out).mono ?_
  rintro e w2 ⟨rfl, hb2⟩
  have HB2 := Lib.hid hb2
  have HR2 := Lib.hid (Rd.below hb2 _ _ HR.out)
  clear hb2
  go_wp2_with fail
  refine (HOUT.out _ _ HR2.out).mono ?_
  rintro e w3 ⟨rfl, hb3⟩
  have HB3 := Lib.hid hb3
  clear hb3
  go_wp2_with fail
  go_ret
  have h1 : Below w.heap.size w (w1.alloc (.cells #[.string ⟨#[115]⟩, .string ⟨#[97]⟩, .string ⟨#[98]⟩] 33)) := HB1.out.alloc HB1.out.size _
  have h2 := h1.trans (HB2.out.mono h1.size)
  exact ⟨rfl, h2.trans (HB3.out.mono h2.size)⟩
end Go.Proofs.Ytljmghaplnkohaa
