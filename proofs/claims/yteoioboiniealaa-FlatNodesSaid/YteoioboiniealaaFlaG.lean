/- galliardlaw12.awake. -/
import Derived.Test.YteoioboiniealaaFlaF
namespace Go.Proofs.Yteoioboiniealaa
open Go.RowKit

theorem rd_litF {w : World} {cs : Array Value} {e sz n : Nat} {ds : List Dat} (h : RdL w ds cs.toList) (hn : n ≤ maxLen) (hs : cs.size = n * sz) : Rd (w.alloc (.cells cs e)) (.sl e sz n ds) (.slice (some ⟨w.heap.size, 0, none⟩) n n) :=
  rd_sl.2 ⟨_, _, cs.toList, rfl, World.ownsRow_lit (base := 0) w cs n (Nat.zero_le _) hn hs, RdL.below ((Below.refl _ _).alloc (Nat.le_refl _) _) _ _ h⟩
theorem rd_nilF {w : World} {e sz : Nat} : Rd w (.sl e sz 0 []) (.slice none 0 0) := rd_sl.2 ⟨none, 0, [], rfl, World.ownsRow_nil _ _ _ _, rdl_nil.2 rfl⟩
def awG1 : ItemD := ⟨1, ⟨#[115]⟩, ⟨#[]⟩, [], [], false, ⟨#[]⟩, [], [], []⟩
def awG2 : ItemD := ⟨2, ⟨#[101]⟩, ⟨#[]⟩, [], [], false, ⟨#[]⟩, [], [], []⟩
def awGC : ChorD := ⟨⟨#[]⟩, [], [], [awG1, awG2], [⟨⟨#[113]⟩, ⟨#[115]⟩, ⟨#[101]⟩⟩]⟩
theorem awG_graph : graphF 1 awGC = some ⟨[], [plainN 1 awG1, plainN 2 awG2], [(0, 1)], 0⟩ := by kernel_rfl
set_option maxRecDepth 100000 in
set_option maxHeartbeats 2000000 in
theorem flat_awake (w : World) : Calls Try.prog 12 #[] w fun e w' => e = .returned (.bool true) ∧ Below w.heap.size w w' := by
  obtain ⟨W1, hW1⟩ : ∃ W, W = w.alloc (.cells #[.int .i64 1, .string ⟨#[115]⟩, .string ⟨#[]⟩, .slice none 0 0, .slice none 0 0, .bool false, .string ⟨#[]⟩, .slice none 0 0, .slice none 0 0, .slice none 0 0, .int .i64 2, .string ⟨#[101]⟩, .string ⟨#[]⟩, .slice none 0 0, .slice none 0 0, .bool false, .string ⟨#[]⟩, .slice none 0 0, .slice none 0 0, .slice none 0 0] 33) := ⟨_, rfl⟩
  have hI1 : Rd W1 (itemsD [awG1, awG2]) (.slice (some ⟨w.heap.size, 0, none⟩) 2 2) := by
    rw [hW1]
    refine rd_litF ?_ (by decide) rfl
    rw [List.flatMap_cons, List.flatMap_cons, List.flatMap_nil, List.append_nil]
    exact RdL.append (xs := [.int .i64 1, .string ⟨#[115]⟩, .string ⟨#[]⟩, .slice none 0 0, .slice none 0 0, .bool false, .string ⟨#[]⟩, .slice none 0 0, .slice none 0 0, .slice none 0 0]) (rd_itemC.2 ⟨_, _, _, _, _, rfl, rd_nilF, rd_nilF, rd_nilF, rd_nilF, rd_nilF⟩) (rd_itemC.2 ⟨_, _, _, _, _, rfl, rd_nilF, rd_nilF, rd_nilF, rd_nilF, rd_nilF⟩)
  obtain ⟨W2, hW2⟩ : ∃ W, W = W1.alloc (.cells #[.string ⟨#[113]⟩, .string ⟨#[115]⟩, .string ⟨#[101]⟩] 36) := ⟨_, rfl⟩
  have hz1 : W1.heap.size = w.heap.size + 1 := by rw [hW1]; simp
  have hb12 : Below W1.heap.size W1 W2 := by rw [hW2]; exact (Below.refl _ _).alloc (Nat.le_refl _) _
  have hS2 : Rd W2 (seqsD awGC.seqs) (.slice (some ⟨w.heap.size + 1, 0, none⟩) 1 1) := by
    rw [hW2, ← hz1]
    exact rd_litF (rdl_cons.2 ⟨_, _, rfl, rd_str.2 rfl, rdl_cons.2 ⟨_, _, rfl, rd_str.2 rfl, rdl_cons.2 ⟨_, _, rfl, rd_str.2 rfl, rdl_nil.2 rfl⟩⟩⟩) (by decide) rfl
  have hb2 : Below w.heap.size w W2 := by rw [hW2, hW1]; exact ((Below.refl _ _).alloc (Nat.le_refl _) _).alloc (by simp) _
  have hcall := graph_any (w := W2) 1 awGC (AP := none) (cP := 0) (AF := none) (cF := 0) ⟨rd_nilF, rd_nilF, Rd.below hb12 _ _ hI1, hS2⟩ (by decide) (by decide) (by decide) (by unfold awGC awG1 awG2; simp [lenL, lenI]) awG_graph ⟨by decide, by decide, by decide⟩
  have HCALL := Lib.hid hcall
  have HB2 := Lib.hid hb2
  have hW : ((w.alloc (.cells #[.int .i64 1, .string ⟨#[115]⟩, .string ⟨#[]⟩, .slice none 0 0, .slice none 0 0, .bool false, .string ⟨#[]⟩, .slice none 0 0, .slice none 0 0, .slice none 0 0, .int .i64 2, .string ⟨#[101]⟩, .string ⟨#[]⟩, .slice none 0 0, .slice none 0 0, .bool false, .string ⟨#[]⟩, .slice none 0 0, .slice none 0 0, .slice none 0 0] 33)).alloc (.cells #[.string ⟨#[113]⟩, .string ⟨#[115]⟩, .string ⟨#[101]⟩] 36)) = W2 := by rw [hW2, hW1]
  have HW := Lib.hid hW
  clear hW1 hW2 hI1 hz1 hb12 hS2 hb2 hcall hW
  go_enter Try.func12, Try.ntmps12
  go_wp2_with fail
  rw [HW.out]
  refine HCALL.out.mono ?_
  rintro e w3 ⟨hb3, h | h⟩
  · exact absurd rfl h.1
  · obtain ⟨_, vG, vM, vN, vE, rfl, hG, hM, hN, hE⟩ := h
    obtain ⟨AG, cG, rfl⟩ := rd_form hG
    obtain ⟨AM, cM, rfl⟩ := rd_form hM
    obtain ⟨AN, cN, rfl⟩ := rd_form hN
    obtain ⟨AE, cE, hvE, _, _, hat⟩ := rd_at edgeC_len hE
    subst hvE
    obtain ⟨b, vs, rfl, hb, _, hvs, hcell⟩ := hat 0 (by decide)
    obtain ⟨_, _, rfl, h0, hvs⟩ := rdl_cons.1 hvs
    obtain ⟨_, _, rfl, h1, hvs⟩ := rdl_cons.1 hvs
    obtain rfl := rdl_nil.1 hvs
    obtain rfl := rd_int.1 h0
    obtain rfl := rd_int.1 h1
    have e0 : w3.cell? ⟨b, 0, none⟩ = some (.int .i64 0) := hcell 0 (by omega)
    have e1 : w3.cell? ⟨b, 1, none⟩ = some (.int .i64 1) := hcell 1 (by omega)
    have HBF := Lib.hid (HB2.out.trans (hb3.mono HB2.out.size))
    clear hG hM hN hE hat hcell hb3 hvs h0 h1 HCALL
    simp only [List.length_cons, List.length_nil]
    go_wp2_with fail
    go_ret
    exact ⟨rfl, HBF.out.alloc HBF.out.size _⟩
end Go.Proofs.Yteoioboiniealaa
