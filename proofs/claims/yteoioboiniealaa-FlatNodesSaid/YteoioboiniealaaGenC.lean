/- The contracts of the generator's next and name. -/
import Derived.Test.YteoioboiniealaaGenB
namespace Go.Proofs.Yteoioboiniealaa
open Go.RowKit

/-- A function that hands back a text, or a number, and a maker; its post. -/
def MkEnd (w : World) (A : Option Addr) (cap : Nat) (x : Value) (m : MkD) (e : Ending) (w' : World) : Prop := ∃ c, e = .returned (.tuple #[x, .agg c]) ∧ MkR w' A cap m c ∧ Below w.heap.size w w'
theorem ret_name {W : World} {g : Nat} {v0 v1 v2 v3 v4 v5 v6 v7 x : Value} {tmps : Array Value} (h : Blk W g 89 #[v0, v1, v2, v3, v4, v5, v6, v7]) (ht : tmps.getD 5 undef = .pointer (some ⟨g, 0, none⟩)) (hx : tmps.getD 4 undef = x) :
    (results Try.f59 tmps).run Try.prog W = .ok (.tuple #[x, .agg #[v0, v1, v2, v3, v4, v5, v6, v7]]) W := by
  have x0 : W.cell? ⟨g, 0, none⟩ = some v0 := h.cell 0
  have x1 : W.cell? ⟨g, 1, none⟩ = some v1 := h.cell 1
  have x2 : W.cell? ⟨g, 2, none⟩ = some v2 := h.cell 2
  have x3 : W.cell? ⟨g, 3, none⟩ = some v3 := h.cell 3
  have x4 : W.cell? ⟨g, 4, none⟩ = some v4 := h.cell 4
  have x5 : W.cell? ⟨g, 5, none⟩ = some v5 := h.cell 5
  have x6 : W.cell? ⟨g, 6, none⟩ = some v6 := h.cell 6
  have x7 : W.cell? ⟨g, 7, none⟩ = some v7 := h.cell 7
  simp [results, Try.results59, go_sem, ht, hx, x0, x1, x2, x3, x4, x5, x6, x7, -Array.getD_eq_getD_getElem?]
theorem ret_next {W : World} {g : Nat} {v0 v1 v2 v3 v4 v5 v6 v7 x : Value} {tmps : Array Value} (h : Blk W g 89 #[v0, v1, v2, v3, v4, v5, v6, v7]) (ht : tmps.getD 3 undef = .pointer (some ⟨g, 0, none⟩)) (hx : tmps.getD 2 undef = x) :
    (results Try.f76 tmps).run Try.prog W = .ok (.tuple #[x, .agg #[v0, v1, v2, v3, v4, v5, v6, v7]]) W := by
  have x0 : W.cell? ⟨g, 0, none⟩ = some v0 := h.cell 0
  have x1 : W.cell? ⟨g, 1, none⟩ = some v1 := h.cell 1
  have x2 : W.cell? ⟨g, 2, none⟩ = some v2 := h.cell 2
  have x3 : W.cell? ⟨g, 3, none⟩ = some v3 := h.cell 3
  have x4 : W.cell? ⟨g, 4, none⟩ = some v4 := h.cell 4
  have x5 : W.cell? ⟨g, 5, none⟩ = some v5 := h.cell 5
  have x6 : W.cell? ⟨g, 6, none⟩ = some v6 := h.cell 6
  have x7 : W.cell? ⟨g, 7, none⟩ = some v7 := h.cell 7
  simp [results, Try.results76, go_sem, ht, hx, x0, x1, x2, x3, x4, x5, x6, x7, -Array.getD_eq_getD_getElem?]

set_option maxRecDepth 100000 in
set_option maxHeartbeats 2000000 in
theorem next_any {w : World} {A : Option Addr} {cap : Nat} {m : MkD} {c : Array Value} (hp : IntsAt w A m.p) (hM : MkR w A cap m c) (hs : SmallM 10000 m) :
    Calls Try.prog 76 #[.agg c] w (MkEnd w A cap (.int .i64 (pickF m.p m.at_ : Nat)) (gnextF m)) := by
  obtain ⟨AP, cP, AF, cF, AI, cI, AS, cS, rfl, hC⟩ := hM
  have hpick := fun W (hb : Below w.heap.size w W) => pick_any (cap := cap) (hp.below hb) hs.pl m.at_ (by have := hs.at_; omega)
  have HP := Lib.hid hpick
  have HC := Lib.hid hC
  have hat := hs.at_
  clear hpick hC hs hp
  go_enter Try.func76, Try.ntmps76
  go_wp2_with fail
  refine (HP.out _ (((Below.refl _ _).alloc (Nat.le_refl _) _).alloc (by simp) _)).mono ?_
  rintro e w1 ⟨rfl, rfl⟩
  go_wp2_with fail
  go_region
  all_goals
    go_wp2_with fail
    refine bodyPost_ret (ret_next (Blk.drew (by have := Blk.new (w.alloc (.cells #[.slice A m.p.length cap, .int .i64 (m.at_ + 1), .int .i64 m.n, .slice AP m.parts.length cP, .slice AF m.flows.length cF, .slice AI m.items.length cI, .slice AS m.seqs.length cS, .string m.pre] 89)) 89 #[.slice A m.p.length cap, .int .i64 (m.at_ + 1), .int .i64 m.n, .slice AP m.parts.length cP, .slice AF m.flows.length cF, .slice AI m.items.length cI, .slice AS m.seqs.length cS, .string m.pre]; simpa using this)) rfl rfl) rfl ?_
    exact ⟨_, rfl, ⟨AP, cP, AF, cF, AI, cI, AS, cS, rfl, HC.out.below (((Below.refl _ _).alloc (Nat.le_refl _) _).alloc (by simp) _).drew⟩, (((Below.refl _ _).alloc (Nat.le_refl _) _).alloc (by simp) _).drew⟩

set_option maxRecDepth 100000 in
set_option maxHeartbeats 4000000 in
theorem name_same {w : World} {A : Option Addr} {cap : Nat} {m : MkD} {AP : Option Addr} {cP : Nat} {AF : Option Addr} {cF : Nat} {AI : Option Addr} {cI : Nat} {AS : Option Addr} {cS : Nat} (_hC : Comp w m.parts m.flows m.items m.seqs AP cP AF cF AI cI AS cS) (hs : SmallM 10000 m) (s : ByteArray) (hss : s.size ≤ 10) :
    Calls Try.prog 59 #[.agg #[.slice A m.p.length cap, .int .i64 m.at_, .int .i64 m.n, .slice AP m.parts.length cP, .slice AF m.flows.length cF, .slice AI m.items.length cI, .slice AS m.seqs.length cS, .string m.pre], .string s] w (fun e w' => e = .returned (.tuple #[.string (gnameF m s), .agg #[.slice A (gnamedF m).p.length cap, .int .i64 (gnamedF m).at_, .int .i64 (gnamedF m).n, .slice AP (gnamedF m).parts.length cP, .slice AF (gnamedF m).flows.length cF, .slice AI (gnamedF m).items.length cI, .slice AS (gnamedF m).seqs.length cS, .string (gnamedF m).pre]]) ∧ Below w.heap.size w w') := by
  have hid := fun W => id_any s (by omega) (m.n + 1) (by have := hs.n; omega) W
  have hids : (idF s (m.n + 1)).size ≤ 12 := by unfold idF; rw [ByteArray.size_append]; show s.size + 2 ≤ _; omega
  obtain ⟨S, hS⟩ : ∃ S, S = idF s (m.n + 1) := ⟨_, rfl⟩
  rw [← hS] at hid hids
  have hfin : gnameF m s = m.pre ++ S := by rw [hS]; rfl
  have hpre := hs.pre
  have hq : ∀ W, (Op.stringOp .add m.pre S).run Try.prog W = .ok (.string (m.pre ++ S)) W := fun W => run_string_add_sum W _ _ (by omega)
  have hnc : ((m.n + 1 : Nat) : Int) = (m.n : Int) + 1 := by omega
  rw [hnc] at hid
  have HI := Lib.hid hid
  have HF := Lib.hid hfin
  have hn := hs.n
  obtain ⟨W, hW⟩ : ∃ W, W = (w.alloc (.cells #[.slice A m.p.length cap, .int .i64 m.at_, .int .i64 ((m.n : Int) + 1), .slice AP m.parts.length cP, .slice AF m.flows.length cF, .slice AI m.items.length cI, .slice AS m.seqs.length cS, .string m.pre] 89)).alloc (.cells #[.slice none 0 0, .int .i64 0, .int .i64 0, .slice none 0 0, .slice none 0 0, .slice none 0 0, .slice none 0 0, .string ⟨#[]⟩] 89) := ⟨_, rfl⟩
  have hM1 : Blk W w.heap.size 89 #[.slice A m.p.length cap, .int .i64 m.at_, .int .i64 ((m.n : Int) + 1), .slice AP m.parts.length cP, .slice AF m.flows.length cF, .slice AI m.items.length cI, .slice AS m.seqs.length cS, .string m.pre] := by rw [hW]; exact (Blk.new w _ _).alloc _
  have hR1 : Blk W (w.heap.size + 1) 89 #[.slice none 0 0, .int .i64 0, .int .i64 0, .slice none 0 0, .slice none 0 0, .slice none 0 0, .slice none 0 0, .string ⟨#[]⟩] := by
    rw [hW]
    have := Blk.new (w.alloc (.cells #[.slice A m.p.length cap, .int .i64 m.at_, .int .i64 ((m.n : Int) + 1), .slice AP m.parts.length cP, .slice AF m.flows.length cF, .slice AI m.items.length cI, .slice AS m.seqs.length cS, .string m.pre] 89)) 89 #[.slice none 0 0, .int .i64 0, .int .i64 0, .slice none 0 0, .slice none 0 0, .slice none 0 0, .slice none 0 0, .string ⟨#[]⟩]
    simpa using this
  have hbW : Below w.heap.size w W := by rw [hW]; exact ((Below.refl _ _).alloc (Nat.le_refl _) _).alloc (by simp) _
  have HM1 := Lib.hid hM1
  have HR1 := Lib.hid hR1
  have HBW := Lib.hid hbW
  have HW := Lib.hid hW.symm
  clear hid hfin hs hnc hS hM1 hR1 hbW hW
  go_enter Try.func59, Try.ntmps59
  go_wp2_with fail
  rw [HW.out]
  have HY_n := Lib.hid (fun (V : World) (hSw : (fun V => Blk V w.heap.size 89 #[.slice A m.p.length cap, .int .i64 m.at_, .int .i64 ((m.n : Int) + 1), .slice AP m.parts.length cP, .slice AF m.flows.length cF, .slice AI m.items.length cI, .slice AS m.seqs.length cS, .string m.pre] ∧ Blk V (w.heap.size + 1) 89 #[.slice none 0 0, .int .i64 0, .int .i64 0, .slice none 0 0, .slice none 0 0, .slice none 0 0, .slice none 0 0, .string ⟨#[]⟩]) V) => And.intro (show V.cell? ⟨w.heap.size, 0, none⟩ = some (.slice A m.p.length cap) from hSw.1.cell 0) (And.intro (show V.cell? ⟨w.heap.size, 1, none⟩ = some (.int .i64 m.at_) from hSw.1.cell 1) (And.intro (show V.cell? ⟨w.heap.size, 2, none⟩ = some (.int .i64 ((m.n : Int) + 1)) from hSw.1.cell 2) (And.intro (show V.cell? ⟨w.heap.size, 3, none⟩ = some (.slice AP m.parts.length cP) from hSw.1.cell 3) (And.intro (show V.cell? ⟨w.heap.size, 4, none⟩ = some (.slice AF m.flows.length cF) from hSw.1.cell 4) (And.intro (show V.cell? ⟨w.heap.size, 5, none⟩ = some (.slice AI m.items.length cI) from hSw.1.cell 5) (And.intro (show V.cell? ⟨w.heap.size, 6, none⟩ = some (.slice AS m.seqs.length cS) from hSw.1.cell 6) ((show V.cell? ⟨w.heap.size, 7, none⟩ = some (.string m.pre) from hSw.1.cell 7)))))))))
  refine wp_region_HT 9 (fun V => Blk V w.heap.size 89 #[.slice A m.p.length cap, .int .i64 m.at_, .int .i64 ((m.n : Int) + 1), .slice AP m.parts.length cP, .slice AF m.flows.length cF, .slice AI m.items.length cI, .slice AS m.seqs.length cS, .string m.pre] ∧ Blk V (w.heap.size + 1) 89 #[.slice none 0 0, .int .i64 0, .int .i64 0, .slice none 0 0, .slice none 0 0, .slice none 0 0, .slice none 0 0, .string ⟨#[]⟩]) (by kernel_rfl) (by decide) (⟨HM1.out, HR1.out⟩) (fun hHeld => ?_)
  refine ht_take 0 (v := ?vn_1) rfl (by kernel_rfl) (fun _ _ _ h => h) (Or.inl ⟨by rfl, ?hn_1⟩) hHeld ?rn_1
  case hn_1 => ((intro V hSw; obtain ⟨y0, y1, y2, y3, y4, y5, y6, y7⟩ := HY_n.out V hSw; go_simp); (try (with_reducible rfl)))
  try simp only [Act.put, List.setIfInBounds_toArray, List.set_cons_zero, List.set_cons_succ]
  refine ht_take 1 (v := ?vn_2) rfl (by kernel_rfl) (fun _ _ _ h => h) (Or.inl ⟨by rfl, ?hn_2⟩) hHeld ?rn_2
  case hn_2 => ((intro V hSw; obtain ⟨y0, y1, y2, y3, y4, y5, y6, y7⟩ := HY_n.out V hSw; go_simp); (try (with_reducible rfl)))
  try simp only [Act.put, List.setIfInBounds_toArray, List.set_cons_zero, List.set_cons_succ]
  refine ht_take 2 (v := ?vn_3) rfl (by kernel_rfl) (fun _ _ _ h => h) (Or.inl ⟨by rfl, ?hn_3⟩) hHeld ?rn_3
  case hn_3 => ((intro V hSw; obtain ⟨y0, y1, y2, y3, y4, y5, y6, y7⟩ := HY_n.out V hSw; go_simp); (try (with_reducible rfl)))
  try simp only [Act.put, List.setIfInBounds_toArray, List.set_cons_zero, List.set_cons_succ]
  refine ht_take 3 (v := ?vn_4) rfl (by kernel_rfl) (fun _ _ _ h => h) (Or.inl ⟨by rfl, ?hn_4⟩) hHeld ?rn_4
  case hn_4 => ((intro V hSw; obtain ⟨y0, y1, y2, y3, y4, y5, y6, y7⟩ := HY_n.out V hSw; go_simp); (try (with_reducible rfl)))
  try simp only [Act.put, List.setIfInBounds_toArray, List.set_cons_zero, List.set_cons_succ]
  refine ht_take 4 (v := ?vn_5) rfl (by kernel_rfl) (fun _ _ _ h => h) (Or.inl ⟨by rfl, ?hn_5⟩) hHeld ?rn_5
  case hn_5 => ((intro V hSw; obtain ⟨y0, y1, y2, y3, y4, y5, y6, y7⟩ := HY_n.out V hSw; go_simp); (try (with_reducible rfl)))
  try simp only [Act.put, List.setIfInBounds_toArray, List.set_cons_zero, List.set_cons_succ]
  refine ht_take 7 (v := ?vn_6) rfl (by kernel_rfl) (fun _ _ _ h => h) (Or.inl ⟨by rfl, ?hn_6⟩) hHeld ?rn_6
  case hn_6 => ((intro V hSw; obtain ⟨y0, y1, y2, y3, y4, y5, y6, y7⟩ := HY_n.out V hSw; go_simp); (try (with_reducible rfl)))
  try simp only [Act.put, List.setIfInBounds_toArray, List.set_cons_zero, List.set_cons_succ]
  refine ht_one 5 rfl (by kernel_rfl) (fun K hK => ?_)
  go_simp
  refine (HI.out _).mono ?_
  rintro e w1 ⟨rfl, hb1⟩
  go_wp2_with fail
  refine hK.out _ _ (⟨hHeld.1.below hb1 hHeld.1.lt, hHeld.2.below hb1 hHeld.2.lt⟩) (fun hHeld => ?_)
  clear hK K
  try simp only [Act.put, List.setIfInBounds_toArray, List.set_cons_zero, List.set_cons_succ]
  refine ht_take 6 (v := ?vn_7) rfl (by kernel_rfl) (fun _ _ _ h => h) (Or.inl ⟨by rfl, ?hn_7⟩) hHeld ?rn_7
  case hn_7 => ((intro V hSw; obtain ⟨y0, y1, y2, y3, y4, y5, y6, y7⟩ := HY_n.out V hSw; go_simp); (try (with_reducible rfl)))
  try simp only [Act.put, List.setIfInBounds_toArray, List.set_cons_zero, List.set_cons_succ]
  refine ht_take 8 (v := ?vn_8) rfl (by kernel_rfl) (fun _ _ _ h => h) (Or.inl ⟨by rfl, ?hn_8⟩) hHeld ?rn_8
  case hn_8 => ((intro V hSw; obtain ⟨y0, y1, y2, y3, y4, y5, y6, y7⟩ := HY_n.out V hSw; go_simp); (try (with_reducible rfl)))
  try simp only [Act.put, List.setIfInBounds_toArray, List.set_cons_zero, List.set_cons_succ]
  refine ht_done (by kernel_rfl) rfl ?_
  have hb1w := HBW.out.trans ((((Below.refl W.heap.size W).drew).trans hb1).mono (by have := HBW.out.size; exact this))
  have HB1 := Lib.hid hb1w
  have z0 : w1.cell? ⟨w.heap.size + 1, 0, none⟩ = some (.slice none 0 0) := hHeld.2.cell 0
  have z1 : w1.cell? ⟨w.heap.size + 1, 1, none⟩ = some (.int .i64 0) := hHeld.2.cell 1
  have z2 : w1.cell? ⟨w.heap.size + 1, 2, none⟩ = some (.int .i64 0) := hHeld.2.cell 2
  have z3 : w1.cell? ⟨w.heap.size + 1, 3, none⟩ = some (.slice none 0 0) := hHeld.2.cell 3
  have z4 : w1.cell? ⟨w.heap.size + 1, 4, none⟩ = some (.slice none 0 0) := hHeld.2.cell 4
  have z5 : w1.cell? ⟨w.heap.size + 1, 5, none⟩ = some (.slice none 0 0) := hHeld.2.cell 5
  have z6 : w1.cell? ⟨w.heap.size + 1, 6, none⟩ = some (.slice none 0 0) := hHeld.2.cell 6
  have z7 : w1.cell? ⟨w.heap.size + 1, 7, none⟩ = some (.string ⟨#[]⟩) := hHeld.2.cell 7
  have q0 := hHeld.2.frozen 0
  have q1 := hHeld.2.frozen 1
  have q2 := hHeld.2.frozen 2
  have q3 := hHeld.2.frozen 3
  have q4 := hHeld.2.frozen 4
  have q5 := hHeld.2.frozen 5
  have q6 := hHeld.2.frozen 6
  have q7 := hHeld.2.frozen 7
  have hlt := hHeld.2.lt
  go_wp2_with fail
  have hblk := putAll_blk [.slice A m.p.length cap, .int .i64 m.at_, .int .i64 ((m.n : Int) + 1), .slice AP m.parts.length cP, .slice AF m.flows.length cF, .slice AI m.items.length cI, .slice AS m.seqs.length cS, .string m.pre] 0 w1 _ hHeld.2 rfl
  have hend : (fun e w' => e = Ending.returned (.tuple #[.string (gnameF m s), .agg #[.slice A (gnamedF m).p.length cap, .int .i64 (gnamedF m).at_, .int .i64 (gnamedF m).n, .slice AP (gnamedF m).parts.length cP, .slice AF (gnamedF m).flows.length cF, .slice AI (gnamedF m).items.length cI, .slice AS (gnamedF m).seqs.length cS, .string (gnamedF m).pre]]) ∧ Below w.heap.size w w') (.returned (.tuple #[.string (m.pre ++ S), .agg #[.slice A m.p.length cap, .int .i64 m.at_, .int .i64 ((m.n : Int) + 1), .slice AP m.parts.length cP, .slice AF m.flows.length cF, .slice AI m.items.length cI, .slice AS m.seqs.length cS, .string m.pre]])) (putAll w1 (w.heap.size + 1) 0 [.slice A m.p.length cap, .int .i64 m.at_, .int .i64 ((m.n : Int) + 1), .slice AP m.parts.length cP, .slice AF m.flows.length cF, .slice AI m.items.length cI, .slice AS m.seqs.length cS, .string m.pre]) := by
    rw [HF.out]
    have hb2 := putAll_below (B := w.heap.size) (g := w.heap.size + 1) (by omega) [.slice A m.p.length cap, .int .i64 m.at_, .int .i64 ((m.n : Int) + 1), .slice AP m.parts.length cP, .slice AF m.flows.length cF, .slice AI m.items.length cI, .slice AS m.seqs.length cS, .string m.pre] 0 _ HB1.out
    exact ⟨rfl, hb2⟩
  exact bodyPost_ret (ret_name hblk rfl rfl) rfl hend
theorem name_any {w : World} {A : Option Addr} {cap : Nat} {m : MkD} {c : Array Value} (hM : MkR w A cap m c) (hs : SmallM 10000 m) (s : ByteArray) (hss : s.size ≤ 10) :
    Calls Try.prog 59 #[.agg c, .string s] w (MkEnd w A cap (.string (gnameF m s)) (gnamedF m)) := by
  obtain ⟨AP, cP, AF, cF, AI, cI, AS, cS, rfl, hC⟩ := hM
  refine (name_same hC hs s hss).mono ?_
  rintro e w' ⟨rfl, hb⟩
  exact ⟨_, rfl, ⟨AP, cP, AF, cF, AI, cI, AS, cS, rfl, hC.below hb⟩, hb⟩
end Go.Proofs.Yteoioboiniealaa
