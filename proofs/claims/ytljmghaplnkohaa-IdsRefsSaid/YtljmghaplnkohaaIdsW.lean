/- galliardlaw09.awake. -/
import Derived.Test.YtljmghaplnkohaaIdsG
namespace Go.Proofs.Ytljmghaplnkohaa
open Go.RowKit

theorem rd_nilW {w : World} {e sz : Nat} : Rd w (.sl e sz 0 []) (.slice none 0 0) := rd_sl.2 ⟨none, 0, [], rfl, World.ownsRow_nil _ _ _ _, rdl_nil.2 rfl⟩
def awM : PartD := ⟨⟨#[109]⟩, ⟨#[]⟩⟩
def awD1 : DocD := ⟨[awM], []⟩
def awD2 : DocD := ⟨[awM, awM], []⟩
theorem aw_adds1 : addsF [] (idsD awD1) = (0, [⟨#[109]⟩]) := by kernel_rfl
theorem aw_adds2 : addsF [] (idsD awD2) = (7, [⟨#[109]⟩]) := by kernel_rfl
theorem aw_check : checkF awD2 = 7 := by unfold checkF; rw [aw_adds2]; rfl

set_option maxRecDepth 100000 in
set_option maxHeartbeats 2000000 in
theorem ids_awake (w : World) : Calls Try.prog 19 #[] w fun e w' => e = .returned (.bool true) ∧ Below w.heap.size w w' := by
  obtain ⟨W1, hW1⟩ : ∃ W, W = w.alloc (.cells #[.string ⟨#[109]⟩, .string ⟨#[]⟩, .string ⟨#[109]⟩, .string ⟨#[]⟩] 86) := ⟨_, rfl⟩
  obtain ⟨W2, hW2⟩ : ∃ W, W = W1.alloc (.cells #[.slice (some ⟨w.heap.size, 0, none⟩) 2 2, .slice none 0 0] 42) := ⟨_, rfl⟩
  have hz1 : W1.heap.size = w.heap.size + 1 := by rw [hW1]; simp
  have hz2 : W2.heap.size = w.heap.size + 2 := by rw [hW2]; simp [hz1]
  have b12 : Below W1.heap.size W1 W2 := by rw [hW2]; exact (Below.refl _ _).alloc (Nat.le_refl _) _
  have b1 : Below w.heap.size w W1 := by rw [hW1]; exact (Below.refl _ _).alloc (Nat.le_refl _) _
  have b2 : Below w.heap.size w W2 := b1.trans (b12.mono b1.size)
  have hm2 : Rd W2 (msgsD awD2.msgs) (.slice (some ⟨w.heap.size, 0, none⟩) 2 2) := by
    refine Rd.below b12 _ _ ?_
    rw [hW1]
    refine rd_sl.2 ⟨_, _, _, rfl, World.ownsRow_lit (base := 0) w _ 2 (Nat.zero_le _) (by decide) rfl, ?_⟩
    exact rdl_cons.2 ⟨_, _, rfl, rd_str.2 rfl, rdl_cons.2 ⟨_, _, rfl, rd_str.2 rfl, rdl_cons.2 ⟨_, _, rfl, rd_str.2 rfl, rdl_cons.2 ⟨_, _, rfl, rd_str.2 rfl, rdl_nil.2 rfl⟩⟩⟩⟩
  have hm1 : Rd W2 (msgsD awD1.msgs) (.slice (some ⟨w.heap.size, 0, none⟩) 1 2) := by
    refine Rd.below b12 _ _ ?_
    rw [hW1]
    refine rd_sl.2 ⟨_, _, [.string ⟨#[109]⟩, .string ⟨#[]⟩], rfl, ⟨by rfl, .inr ⟨w.heap.size, 2, _, rfl, Nat.zero_le _, Go.heap_alloc_new w _, by decide, by decide, rfl, by rfl⟩⟩, ?_⟩
    exact rdl_cons.2 ⟨_, _, rfl, rd_str.2 rfl, rdl_cons.2 ⟨_, _, rfl, rd_str.2 rfl, rdl_nil.2 rfl⟩⟩
  have hbd : Blk W2 (w.heap.size + 1) 42 #[.slice (some ⟨w.heap.size, 0, none⟩) 2 2, .slice none 0 0] := by rw [hW2, ← hz1]; exact Blk.new _ _ _
  have d0 : W2.cell? ⟨w.heap.size + 1, 0, none⟩ = some (.slice (some ⟨w.heap.size, 0, none⟩) 2 2) := hbd.cell 0
  have d1 : W2.cell? ⟨w.heap.size + 1, 1, none⟩ = some (.slice none 0 0) := hbd.cell 1
  have hnew := new_any awD1 hm1 (B1 := none) (k1 := 0) rd_nilW (by constructor; decide; decide)
  rw [aw_adds1] at hnew
  have hchk := fun U (k : Below W2.heap.size W2 U) => check_any awD2 (Rd.below k _ _ hm2) (B1 := none) (k1 := 0) rd_nilW (by constructor; decide; decide)
  rw [aw_check] at hchk
  have HNEW := Lib.hid hnew
  have HCHK := Lib.hid hchk
  have HB2 := Lib.hid b2
  have HBD := Lib.hid hbd
  have hW : (w.alloc (.cells #[.string ⟨#[109]⟩, .string ⟨#[]⟩, .string ⟨#[109]⟩, .string ⟨#[]⟩] 86)).alloc (.cells #[.slice (some ⟨w.heap.size, 0, none⟩) 2 2, .slice none 0 0] 42) = W2 := by rw [hW2, hW1]
  have HW := Lib.hid hW
  obtain ⟨gd, hgd⟩ : ∃ g, g = w.heap.size + 1 := ⟨_, rfl⟩
  obtain ⟨gm, hgm⟩ : ∃ g, g = w.heap.size := ⟨_, rfl⟩
  clear hW1 hW2 hm1 hm2 b12 b1 b2 hnew hchk hbd hz1 hz2 hW
  go_enter Try.func19, Try.ntmps19
  go_upto_region 2 with fail
  rw [HW.out]
  go_wp2_with fail
  refine HNEW.out.mono ?_
  rintro e w3 (⟨h, _, _⟩ | ⟨_, g, rfl, hT⟩)
  · exact absurd rfl h
  have hb3 := hT.bel
  have HB3 := Lib.hid hb3
  have HBW := Lib.hid (HB2.out.trans (hb3.mono HB2.out.size))
  have hhas := has_any ⟨#[109]⟩ hT
  have hlen := len_any hT
  have hany : ([⟨#[109]⟩] : List ByteArray).any (eqS · ⟨#[109]⟩) = true := by decide +kernel
  rw [hany] at hhas
  have HHAS := Lib.hid hhas
  have HLEN := Lib.hid hlen
  have hbd3 := HBD.out.below hb3 HBD.out.lt
  have d0 : w3.cell? ⟨w.heap.size + 1, 0, none⟩ = some (.slice (some ⟨w.heap.size, 0, none⟩) 2 2) := hbd3.cell 0
  have d1 : w3.cell? ⟨w.heap.size + 1, 1, none⟩ = some (.slice none 0 0) := hbd3.cell 1
  clear hhas hlen hany hT hb3 hbd3
  go_wp2_with fail
  refine HHAS.out.mono ?_
  rintro e w4 ⟨rfl, rfl⟩
  go_wp2_with fail
  refine HLEN.out.mono ?_
  rintro e w5 ⟨rfl, rfl⟩
  go_wp2_with fail
  refine (HCHK.out _ HB3.out).mono ?_
  rintro e w6 ⟨rfl, hb6⟩
  go_wp2_with fail
  go_ret
  exact ⟨rfl, HBW.out.trans (hb6.mono HBW.out.size)⟩
end Go.Proofs.Ytljmghaplnkohaa
