/- The contract of the generator's seq. -/
import Derived.Test.YteoioboiniealaaGenD
namespace Go.Proofs.Yteoioboiniealaa
open Go.RowKit
attribute [local go_sem ↓] Go.wp_at_zero Go.wp_at_succ

theorem SmallM.named {K : Nat} {m : MkD} (h : SmallM K m) : SmallM (K + 1) (gnamedF m) :=
  ⟨h.pre, h.pl, Nat.le_succ_of_le h.at_, Nat.succ_le_succ h.n, Nat.le_succ_of_le h.flows, Nat.le_succ_of_le h.items, Nat.le_succ_of_le h.seqs⟩
theorem only_setQ {w : World} {g i : Nat} (u : Value) : w.grownBy (w.setCell ⟨g, i, none⟩ u) (some g) :=
  ⟨rfl, rfl, rfl, by simp [World.setCell], fun k _ hne => Below.heap_setCell w ⟨g, i, none⟩ u k (fun e => hne (by rw [e]))⟩
/-- No slices within. -/
def flatL : List Dat → Prop
  | [] => True
  | .sl _ _ _ _ :: _ => False
  | .int _ :: ds => flatL ds
  | .str _ :: ds => flatL ds
  | .bool _ :: ds => flatL ds
theorem flatL_append : ∀ {a b : List Dat}, flatL a → flatL b → flatL (a ++ b)
  | [], _, _, h => h
  | .int _ :: a, b, h, k => by simp only [flatL, List.cons_append] at *; exact flatL_append h k
  | .str _ :: a, b, h, k => by simp only [flatL, List.cons_append] at *; exact flatL_append h k
  | .bool _ :: a, b, h, k => by simp only [flatL, List.cons_append] at *; exact flatL_append h k
  | .sl _ _ _ _ :: _, _, h, _ => by simp only [flatL] at h
theorem flatL_flat {α : Type} {f : α → List Dat} (h : ∀ x, flatL (f x)) : ∀ l : List α, flatL (l.flatMap f)
  | [] => by simp [flatL]
  | x :: l => by rw [List.flatMap_cons]; exact flatL_append (h x) (flatL_flat h l)
theorem RdL.flat {w w1 : World} : ∀ {ds : List Dat} {xs : List Value}, flatL ds → RdL w ds xs → RdL w1 ds xs
  | [], xs, _, h => rdl_nil.2 (rdl_nil.1 h)
  | .int _ :: ds, xs, hf, h => by
    obtain ⟨v, r, rfl, hd, hl⟩ := rdl_cons.1 h
    exact rdl_cons.2 ⟨v, r, rfl, rd_int.2 (rd_int.1 hd), RdL.flat (by simpa only [flatL] using hf) hl⟩
  | .str _ :: ds, xs, hf, h => by
    obtain ⟨v, r, rfl, hd, hl⟩ := rdl_cons.1 h
    exact rdl_cons.2 ⟨v, r, rfl, rd_str.2 (rd_str.1 hd), RdL.flat (by simpa only [flatL] using hf) hl⟩
  | .bool _ :: ds, xs, hf, h => by
    obtain ⟨v, r, rfl, hd, hl⟩ := rdl_cons.1 h
    exact rdl_cons.2 ⟨v, r, rfl, rd_bool.2 (rd_bool.1 hd), RdL.flat (by simpa only [flatL] using hf) hl⟩
  | .sl _ _ _ _ :: _, _, hf, _ => by simp only [flatL] at hf
theorem rd_snoc2 {α : Type} {w6 : World} {B e sz g cap : Nat} {f : α → List Dat} {l : List α} {x : α} {xs vs : List Value} (ho : w6.ownsRow B e sz (.slice (some ⟨g, 0, none⟩) (l.length + 1) cap) (l.length + 1) (xs ++ vs)) (hl : RdL w6 (l.flatMap f) xs) (hx : RdL w6 (f x) vs) :
    Rd w6 (datS e sz f (l ++ [x])) (.slice (some ⟨g, 0, none⟩) (l ++ [x]).length cap) := rd_snoc ho hl hx (Below.refl _ _) (Below.refl _ _)
set_option maxRecDepth 100000 in
set_option maxHeartbeats 8000000 in
theorem seq_any {w : World} {A : Option Addr} {cap : Nat} {m : MkD} {c : Array Value} (hM : MkR w A cap m c) (hs : SmallM 9000 m) (a b : ByteArray) :
    Calls Try.prog 62 #[.agg c, .string a, .string b] w (MkEnd1 w A cap (gseqF m a b)) := by
  obtain ⟨AP, cP, AF, cF, AI, cI, AS, cS, rfl, hC⟩ := hM
  obtain ⟨j0, hj0, hy0, hy1, hy2⟩ := info_parts Try.infoSeqG
  have HS := Lib.hid hs
  obtain ⟨W, hW⟩ : ∃ W, W = (w.alloc (.cells #[.slice A m.p.length cap, .int .i64 m.at_, .int .i64 m.n, .slice AP m.parts.length cP, .slice AF m.flows.length cF, .slice AI m.items.length cI, .slice AS m.seqs.length cS, .string m.pre] 89)).alloc (.cells #[.slice none 0 0, .int .i64 0, .int .i64 0, .slice none 0 0, .slice none 0 0, .slice none 0 0, .slice none 0 0, .string ⟨#[]⟩] 89) := ⟨_, rfl⟩
  have hP : PW w A cap m W := by
    have h1 : Blk W w.heap.size 89 #[.slice A m.p.length cap, .int .i64 m.at_, .int .i64 m.n, .slice AP m.parts.length cP, .slice AF m.flows.length cF, .slice AI m.items.length cI, .slice AS m.seqs.length cS, .string m.pre] := by rw [hW]; exact (Blk.new w _ _).alloc _
    have h2 : Blk W (w.heap.size + 1) 89 #[.slice none 0 0, .int .i64 0, .int .i64 0, .slice none 0 0, .slice none 0 0, .slice none 0 0, .slice none 0 0, .string ⟨#[]⟩] := by
      rw [hW]
      have := Blk.new (w.alloc (.cells #[.slice A m.p.length cap, .int .i64 m.at_, .int .i64 m.n, .slice AP m.parts.length cP, .slice AF m.flows.length cF, .slice AI m.items.length cI, .slice AS m.seqs.length cS, .string m.pre] 89)) 89 #[.slice none 0 0, .int .i64 0, .int .i64 0, .slice none 0 0, .slice none 0 0, .slice none 0 0, .slice none 0 0, .string ⟨#[]⟩]
      simpa using this
    have hb : Below w.heap.size w W := by rw [hW]; exact ((Below.refl _ _).alloc (Nat.le_refl _) _).alloc (by simp) _
    exact ⟨AP, cP, AF, cF, AI, cI, AS, cS, h1, h2, hC.below hb, hb⟩
  have HPW := Lib.hid hP
  have HW := Lib.hid hW.symm
  clear hC hs hP hW
  go_enter Try.func62, Try.ntmps62
  go_upto_region 2 with fail
  rw [HW.out]
  go_upto_region 2 with fail
  go_cut [7] (fun v wx => v = .string (gnameF m chS) ∧ PW w A cap (gnamedF m) wx)
  case first =>
    obtain ⟨AP, cP, AF, cF, AI, cI, AS, cS, hB, hR, hC, hW⟩ := HPW.out
    have y0 : W.cell? ⟨w.heap.size, 0, none⟩ = some (.slice A m.p.length cap) := hB.cell 0
    have y1 : W.cell? ⟨w.heap.size, 1, none⟩ = some (.int .i64 m.at_) := hB.cell 1
    have y2 : W.cell? ⟨w.heap.size, 2, none⟩ = some (.int .i64 m.n) := hB.cell 2
    have y3 : W.cell? ⟨w.heap.size, 3, none⟩ = some (.slice AP m.parts.length cP) := hB.cell 3
    have y4 : W.cell? ⟨w.heap.size, 4, none⟩ = some (.slice AF m.flows.length cF) := hB.cell 4
    have y5 : W.cell? ⟨w.heap.size, 5, none⟩ = some (.slice AI m.items.length cI) := hB.cell 5
    have y6 : W.cell? ⟨w.heap.size, 6, none⟩ = some (.slice AS m.seqs.length cS) := hB.cell 6
    have y7 : W.cell? ⟨w.heap.size, 7, none⟩ = some (.string m.pre) := hB.cell 7
    have HMK := Lib.hid (show MkR W A cap m _ from ⟨AP, cP, AF, cF, AI, cI, AS, cS, rfl, hC⟩)
    have HBL := Lib.hid hW
    have hgl := hB.lt
    clear hR hC hW
    go_wp2_with fail
    refine (name_any HMK.out (HS.out.mono (by decide)) chS (by decide)).mono ?_
    rintro e w1 ⟨c1, rfl, hM1, hb1⟩
    obtain ⟨AP1, cP1, AF1, cF1, AI1, cI1, AS1, cS1, rfl, hC1⟩ := hM1
    have HP1 := Lib.hid (HPW.out.put (m' := gnamedF m) hb1 hC1)
    have hB2 := hB.below hb1 hB.lt
    have z0 : w1.cell? ⟨w.heap.size, 0, none⟩ = some (.slice A m.p.length cap) := hB2.cell 0
    have z1 : w1.cell? ⟨w.heap.size, 1, none⟩ = some (.int .i64 m.at_) := hB2.cell 1
    have z2 : w1.cell? ⟨w.heap.size, 2, none⟩ = some (.int .i64 m.n) := hB2.cell 2
    have z3 : w1.cell? ⟨w.heap.size, 3, none⟩ = some (.slice AP m.parts.length cP) := hB2.cell 3
    have z4 : w1.cell? ⟨w.heap.size, 4, none⟩ = some (.slice AF m.flows.length cF) := hB2.cell 4
    have z5 : w1.cell? ⟨w.heap.size, 5, none⟩ = some (.slice AI m.items.length cI) := hB2.cell 5
    have z6 : w1.cell? ⟨w.heap.size, 6, none⟩ = some (.slice AS m.seqs.length cS) := hB2.cell 6
    have z7 : w1.cell? ⟨w.heap.size, 7, none⟩ = some (.string m.pre) := hB2.cell 7
    have q0 := hB2.frozen 0
    have q1 := hB2.frozen 1
    have q2 := hB2.frozen 2
    have q3 := hB2.frozen 3
    have q4 := hB2.frozen 4
    have q5 := hB2.frozen 5
    have q6 := hB2.frozen 6
    have q7 := hB2.frozen 7
    have hgl1 := hB2.lt
    clear y0 y1 y2 y3 y4 y5 y6 y7 hB hB2 hb1 hC1
    go_wp2_with fail
    go_meet
    case rel => exact ⟨rfl, HP1.out⟩
  case rest =>
    obtain ⟨rfl, hP⟩ := hcut
    obtain ⟨V, rfl⟩ : ∃ V, V = wc := ⟨_, rfl⟩
    have HPV := Lib.hid hP
    clear hP HPW
    obtain ⟨m1, hm1⟩ : ∃ m1, m1 = gnamedF m := ⟨_, rfl⟩
    obtain ⟨s, hs⟩ : ∃ s, s = gnameF m chS := ⟨_, rfl⟩
    rw [← hm1] at HPV
    rw [← hs]
    have HM1 := Lib.hid hm1
    have HSS := Lib.hid hs
    have hsl : m1.seqs.length ≤ 9000 := by rw [hm1]; exact HS.out.seqs
    obtain ⟨AP, cP, AF, cF, AI, cI, AS, cS, hB, hR, hC, hWb⟩ := HPV.out
    obtain ⟨xs, hr, hl, h1⟩ := rd_reads hC.seqs
    have HR := Lib.hid hr
    have HL := Lib.hid hl
    have H1 := Lib.hid h1
    have HC := Lib.hid hC
    have HB := Lib.hid hB
    have HRR := Lib.hid hR
    have HWB := Lib.hid hWb
    have hzz := hWb.size
    have hlB := hB.lt
    have hlR := hR.lt
    have y0 : V.cell? ⟨w.heap.size, 0, none⟩ = some (.slice A m1.p.length cap) := hB.cell 0
    have y1 : V.cell? ⟨w.heap.size, 1, none⟩ = some (.int .i64 m1.at_) := hB.cell 1
    have y2 : V.cell? ⟨w.heap.size, 2, none⟩ = some (.int .i64 m1.n) := hB.cell 2
    have y3 : V.cell? ⟨w.heap.size, 3, none⟩ = some (.slice AP m1.parts.length cP) := hB.cell 3
    have y4 : V.cell? ⟨w.heap.size, 4, none⟩ = some (.slice AF m1.flows.length cF) := hB.cell 4
    have y5 : V.cell? ⟨w.heap.size, 5, none⟩ = some (.slice AI m1.items.length cI) := hB.cell 5
    have y6 : V.cell? ⟨w.heap.size, 6, none⟩ = some (.slice AS m1.seqs.length cS) := hB.cell 6
    have y7 : V.cell? ⟨w.heap.size, 7, none⟩ = some (.string m1.pre) := hB.cell 7
    have k0 : V.cell? ⟨w.heap.size + 1, 0, none⟩ = some (.slice none 0 0) := hR.cell 0
    have k1 : V.cell? ⟨w.heap.size + 1, 1, none⟩ = some (.int .i64 0) := hR.cell 1
    have k2 : V.cell? ⟨w.heap.size + 1, 2, none⟩ = some (.int .i64 0) := hR.cell 2
    have k3 : V.cell? ⟨w.heap.size + 1, 3, none⟩ = some (.slice none 0 0) := hR.cell 3
    have k4 : V.cell? ⟨w.heap.size + 1, 4, none⟩ = some (.slice none 0 0) := hR.cell 4
    have k5 : V.cell? ⟨w.heap.size + 1, 5, none⟩ = some (.slice none 0 0) := hR.cell 5
    have k6 : V.cell? ⟨w.heap.size + 1, 6, none⟩ = some (.slice none 0 0) := hR.cell 6
    have k7 : V.cell? ⟨w.heap.size + 1, 7, none⟩ = some (.string ⟨#[]⟩) := hR.cell 7
    clear hB hR hC hWb hr hl h1 hm1 hs
    go_wp2_with (at_builtin; refine wpList_append_any _ rfl (.tmp 13) (.tmp 15) _ rfl V.heap.size 36 j0 _ 3 48 Try.underlying26 hj0 hy0 hy1 hy2 rfl (by omega) (.slice (some ⟨V.heap.size, 0, none⟩) 0 0) 0 [] rfl (World.ownsRow_lit (base := V.heap.size) V #[] 0 (Nat.le_refl _) (by decide) rfl) V.heap.size AS m1.seqs.length cS xs rfl (HR.out.alloc (Nat.le_refl _) _) H1.out (by unfold maxLen; omega) (by omega) (by simp) ?_)
    intro v3 w3 hown3 hgrow3 hat3
    try simp only [Nat.zero_add, List.nil_append] at hown3
    obtain ⟨A3, c3, rfl, hc31, hc32⟩ := own_slice hown3
    have hb3 : Below V.heap.size V w3 := ((Below.refl V.heap.size V).alloc (Nat.le_refl _) (.cells #[] 36)).grown hgrow3 (by simp) (fun k hk => by simp [Value.ownBlock] at hk; omega)
    have hB3 := HB.out.below hb3 hlB
    have hR3 := HRR.out.below hb3 hlR
    have hz3 := hb3.size
    have hl3 := hB3.lt
    have u0 : w3.cell? ⟨w.heap.size, 0, none⟩ = some (.slice A m1.p.length cap) := hB3.cell 0
    have u1 : w3.cell? ⟨w.heap.size, 1, none⟩ = some (.int .i64 m1.at_) := hB3.cell 1
    have u2 : w3.cell? ⟨w.heap.size, 2, none⟩ = some (.int .i64 m1.n) := hB3.cell 2
    have u3 : w3.cell? ⟨w.heap.size, 3, none⟩ = some (.slice AP m1.parts.length cP) := hB3.cell 3
    have u4 : w3.cell? ⟨w.heap.size, 4, none⟩ = some (.slice AF m1.flows.length cF) := hB3.cell 4
    have u5 : w3.cell? ⟨w.heap.size, 5, none⟩ = some (.slice AI m1.items.length cI) := hB3.cell 5
    have u6 : w3.cell? ⟨w.heap.size, 6, none⟩ = some (.slice AS m1.seqs.length cS) := hB3.cell 6
    have u7 : w3.cell? ⟨w.heap.size, 7, none⟩ = some (.string m1.pre) := hB3.cell 7
    clear y0 y1 y2 y3 y4 y5 y6 y7 hgrow3 hat3
    go_wp2_with (at_builtin; refine wpList_append_lies _ rfl (.tmp 16) (.tmp 21) _ rfl V.heap.size 36 j0 _ 3 48 Try.underlying26 hj0 hy0 hy1 hy2 rfl (by omega) (.slice A3 m1.seqs.length c3) m1.seqs.length xs rfl (hown3.alloc _) ⟨w3.heap.size, 0, none⟩ 1 1 [.string s, .string a, .string b] rfl rfl (World.news_of_block (cs := #[.string s, .string a, .string b]) (t := 36) (fr := (0, 0)) (heap_alloc_new w3 _)) (by simp [Value.oneCell']) (by omega) (by unfold maxLen; omega) (by omega) (by simp; omega) (w3.heap.size + 1) (by simp) ?_)
    intro g6 cap6 w6 hown6 hgrow6 hat6 hlt6
    have hb6 : Below V.heap.size V w6 := (hb3.alloc hz3 _).grown hgrow6 (by simp; omega) (fun k hk => (hown3.lt k hk).1)
    have hB6 := HB.out.below hb6 hlB
    have hR6 := HRR.out.below hb6 hlR
    have hl6 := hB6.lt
    have hl7 := hR6.lt
    have z0 : w6.cell? ⟨w.heap.size, 0, none⟩ = some (.slice A m1.p.length cap) := hB6.cell 0
    have z1 : w6.cell? ⟨w.heap.size, 1, none⟩ = some (.int .i64 m1.at_) := hB6.cell 1
    have z2 : w6.cell? ⟨w.heap.size, 2, none⟩ = some (.int .i64 m1.n) := hB6.cell 2
    have z3 : w6.cell? ⟨w.heap.size, 3, none⟩ = some (.slice AP m1.parts.length cP) := hB6.cell 3
    have z4 : w6.cell? ⟨w.heap.size, 4, none⟩ = some (.slice AF m1.flows.length cF) := hB6.cell 4
    have z5 : w6.cell? ⟨w.heap.size, 5, none⟩ = some (.slice AI m1.items.length cI) := hB6.cell 5
    have z6 : w6.cell? ⟨w.heap.size, 6, none⟩ = some (.slice AS m1.seqs.length cS) := hB6.cell 6
    have z7 : w6.cell? ⟨w.heap.size, 7, none⟩ = some (.string m1.pre) := hB6.cell 7
    have q0 := hB6.frozen 0
    have q1 := hB6.frozen 1
    have q2 := hB6.frozen 2
    have q3 := hB6.frozen 3
    have q4 := hB6.frozen 4
    have q5 := hB6.frozen 5
    have q6 := hB6.frozen 6
    have q7 := hB6.frozen 7
    have t0 : w6.cell? ⟨w.heap.size + 1, 0, none⟩ = some (.slice none 0 0) := hR6.cell 0
    have t1 : w6.cell? ⟨w.heap.size + 1, 1, none⟩ = some (.int .i64 0) := hR6.cell 1
    have t2 : w6.cell? ⟨w.heap.size + 1, 2, none⟩ = some (.int .i64 0) := hR6.cell 2
    have t3 : w6.cell? ⟨w.heap.size + 1, 3, none⟩ = some (.slice none 0 0) := hR6.cell 3
    have t4 : w6.cell? ⟨w.heap.size + 1, 4, none⟩ = some (.slice none 0 0) := hR6.cell 4
    have t5 : w6.cell? ⟨w.heap.size + 1, 5, none⟩ = some (.slice none 0 0) := hR6.cell 5
    have t6 : w6.cell? ⟨w.heap.size + 1, 6, none⟩ = some (.slice none 0 0) := hR6.cell 6
    have t7 : w6.cell? ⟨w.heap.size + 1, 7, none⟩ = some (.string ⟨#[]⟩) := hR6.cell 7
    have p0 := hR6.frozen 0
    have p1 := hR6.frozen 1
    have p2 := hR6.frozen 2
    have p3 := hR6.frozen 3
    have p4 := hR6.frozen 4
    have p5 := hR6.frozen 5
    have p6 := hR6.frozen 6
    have p7 := hR6.frozen 7
    clear u0 u1 u2 u3 u4 u5 u6 u7 hgrow6 hat6
    go_wp2_with fail
    have hg6 : V.heap.size ≤ g6 := (hown6.lt g6 rfl).1
    have hblk := putAll_blk [.slice A m1.p.length cap, .int .i64 m1.at_, .int .i64 m1.n, .slice AP m1.parts.length cP, .slice AF m1.flows.length cF, .slice AI m1.items.length cI, .slice (some ⟨g6, 0, none⟩) (m1.seqs.length + 1) cap6, .string m1.pre] 0 (w6.setCell ⟨w.heap.size, 6, none⟩ (.slice (some ⟨g6, 0, none⟩) (m1.seqs.length + 1) cap6)) _ (hR6.far (by show w.heap.size + 1 ≠ w.heap.size; omega) _) rfl
    have hend : MkEnd1 w A cap (gseqF m a b) (.returned (.agg #[.slice A m1.p.length cap, .int .i64 m1.at_, .int .i64 m1.n, .slice AP m1.parts.length cP, .slice AF m1.flows.length cF, .slice AI m1.items.length cI, .slice (some ⟨g6, 0, none⟩) (m1.seqs.length + 1) cap6, .string m1.pre])) (putAll (w6.setCell ⟨w.heap.size, 6, none⟩ (.slice (some ⟨g6, 0, none⟩) (m1.seqs.length + 1) cap6)) (w.heap.size + 1) 0 [.slice A m1.p.length cap, .int .i64 m1.at_, .int .i64 m1.n, .slice AP m1.parts.length cP, .slice AF m1.flows.length cF, .slice AI m1.items.length cI, .slice (some ⟨g6, 0, none⟩) (m1.seqs.length + 1) cap6, .string m1.pre]) := by
      have hb06 := HWB.out.trans (hb6.mono hzz)
      have hbF := putAll_below (B := w.heap.size) (g := w.heap.size + 1) (by omega) [.slice A m1.p.length cap, .int .i64 m1.at_, .int .i64 m1.n, .slice AP m1.parts.length cP, .slice AF m1.flows.length cF, .slice AI m1.items.length cI, .slice (some ⟨g6, 0, none⟩) (m1.seqs.length + 1) cap6, .string m1.pre] 0 _ (hb06.setCell (p := ⟨w.heap.size, 6, none⟩) (Nat.le_refl _) (.slice (some ⟨g6, 0, none⟩) (m1.seqs.length + 1) cap6))
      have hgr : w6.grownBy (w6.setCell ⟨w.heap.size, 6, none⟩ (.slice (some ⟨g6, 0, none⟩) (m1.seqs.length + 1) cap6)) (some w.heap.size) := only_setQ _
      have hC6 := (HC.out.below hb6).grown hgr hB6
      have hC7 := hC6.grown (putAll_grown [.slice A m1.p.length cap, .int .i64 m1.at_, .int .i64 m1.n, .slice AP m1.parts.length cP, .slice AF m1.flows.length cF, .slice AI m1.items.length cI, .slice (some ⟨g6, 0, none⟩) (m1.seqs.length + 1) cap6, .string m1.pre] _) (hR6.far (by show w.heap.size + 1 ≠ w.heap.size; omega) _)
      have hown := own_putAll (g := w.heap.size + 1) (ownsRow_setCell_other (a := ⟨w.heap.size, 6, none⟩) hown6 (by simp [Value.ownBlock]; omega) (.slice (some ⟨g6, 0, none⟩) (m1.seqs.length + 1) cap6)) (by simp [Value.ownBlock]; omega) [.slice A m1.p.length cap, .int .i64 m1.at_, .int .i64 m1.n, .slice AP m1.parts.length cP, .slice AF m1.flows.length cF, .slice AI m1.items.length cI, .slice (some ⟨g6, 0, none⟩) (m1.seqs.length + 1) cap6, .string m1.pre] 0
      have hseq := rd_snoc2 (f := seqC) (x := ⟨s, a, b⟩) hown (RdL.flat (flatL_flat (fun x => by unfold seqC; simp [flatL]) _) HL.out) (rdl_cons.2 ⟨_, _, rfl, rd_str.2 rfl, rdl_cons.2 ⟨_, _, rfl, rd_str.2 rfl, rdl_cons.2 ⟨_, _, rfl, rd_str.2 rfl, rdl_nil.2 rfl⟩⟩⟩)
      have hg : gseqF m a b = ⟨m1.p, m1.at_, m1.n, m1.parts, m1.flows, m1.items, m1.seqs ++ [⟨s, a, b⟩], m1.pre⟩ := by rw [HM1.out, HSS.out]; rfl
      rw [hg]
      exact ⟨_, rfl, ⟨AP, cP, AF, cF, AI, cI, some ⟨g6, 0, none⟩, cap6, by show _ = _; rw [show (m1.seqs ++ [(⟨s, a, b⟩ : SeqD)]).length = m1.seqs.length + 1 by simp], ⟨hC7.parts, hC7.flows, hC7.items, hseq⟩⟩, hbF⟩
    exact bodyPost_ret (ret_seq hblk rfl) rfl hend
end Go.Proofs.Yteoioboiniealaa
