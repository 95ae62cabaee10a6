/- The contracts of flat.place, of the maker's msg and node. -/
import Derived.Test.YteoioboiniealaaFlaA
import Derived.Test.YteoioboiniealaaReg
import Derived.Deep.DeepCutAuto
namespace Go.Proofs.Yteoioboiniealaa
open Go.RowKit

set_option maxHeartbeats 1000000 in
theorem place_any {w : World} {v : Value} {l : List ByteArray} (s : ByteArray) (hv : Rd w (strsD l) v) :
    Calls Try.prog 86 #[v, .string s] w fun e w' => e = .returned (.int .i64 (placeF l s)) ∧ w = w' := by
  obtain ⟨A, c, rfl, hlc, hcm, hat⟩ := rd_at strC_len hv
  have hmx : l.length ≤ maxLen := by omega
  unfold maxLen at hmx
  have HAT := Lib.hid hat
  clear hat hv hcm
  unfold placeF
  obtain ⟨pf, hpf⟩ : ∃ pf : ByteArray → Bool, pf = (eqS · s) := ⟨_, rfl⟩
  rw [← hpf]
  have HP := Lib.hid hpf
  clear hpf
  go_enter Try.func86, Try.ntmps86
  go_wp2_with fail
  go_loop [9] (fun v => ∃ k : Nat, k ≤ l.length ∧ v = .int .i64 k ∧ Hid (findFrom pf l 0 = findFrom pf (l.drop k) k)) (fun v => l.length - (intOf v).toNat)
  case atStart => exact ⟨0, Nat.zero_le _, rfl, rfl⟩
  case round =>
    obtain ⟨k, hk, rfl, hinv⟩ := hrel
    by_cases hlt : k < l.length
    · obtain ⟨b, vs, rfl, hbl, _, hvs, hcell⟩ := HAT.out k hlt
      have hd : l.drop k = l[k] :: l.drop (k + 1) := List.drop_eq_getElem_cons hlt
      have hi := hinv.out
      rw [hd, findFrom] at hi
      have hpk : pf l[k] = (l[k].toList == s.toList) := by rw [HP.out]; rfl
      rw [hpk] at hi
      generalize l[k] = x at *
      obtain rfl := rd_strC hvs
      have x0 : w.cell? ⟨b, k, none⟩ = some (.string x) := by have := hcell 0 (by omega); simpa using this
      clear hcell hd hinv hpk hvs
      rcases ht : (x.toList == s.toList) with _ | _
      · rw [ht, if_neg Bool.false_ne_true] at hi
        have Hi := Lib.hid hi
        clear hi
        go_wp2_with fail
        go_round
        case rel => exact ⟨k + 1, by omega, by go_num, Hi⟩
        case measure => simp [intOf]; omega
      · rw [ht, if_pos (rfl : true = true)] at hi
        have Hi := Lib.hid hi
        clear hi
        go_wp2_with fail
        go_ret
        exact ⟨by rw [Hi.out]; rfl, rfl⟩
    · have hi := hinv.out
      rw [List.drop_eq_nil_of_le (by omega), findFrom] at hi
      have Hi := Lib.hid hi
      clear hi
      go_wp2_with fail
      go_ret
      exact ⟨by rw [Hi.out]; rfl, rfl⟩

theorem place_lt (l : List ByteArray) (x : ByteArray) : placeF l x ≤ l.length := by
  have h : ∀ (l : List ByteArray) (k : Nat), findFrom (eqS · x) l k ≤ ((k + l.length : Nat) : Int) := by
    intro l
    induction l with
    | nil => intro k; unfold findFrom; omega
    | cons a l ih =>
      intro k
      unfold findFrom
      split
      · simp only [List.length_cons]; omega
      · have := ih (k + 1)
        simp only [List.length_cons] at this ⊢
        omega
  have := h l 0
  unfold placeF
  omega
set_option maxRecDepth 100000 in
set_option maxHeartbeats 4000000 in
theorem fmsg_any {C : FC} {wB W : World} {m : Nat} {s : FS} (id : ByteArray) (hm : m < wB.heap.size) {gM gN gE : Value} (hs : (msgF s id).2.msgs.length ≤ 1000000) (hX : FX C wB m s gM gN gE W) :
    Calls Try.prog 85 #[.pointer (some ⟨m, 0, none⟩), .string id] W fun e w' => e = .returned (.int .i64 (msgF s id).1) ∧ (∃ gM', FX C wB m (msgF s id).2 gM' gN gE w') ∧ ChT [9, 95] W w' := by
  obtain ⟨j0, hj0, hy0, hy1, hy2⟩ := info_parts Try.infoFStr
  have hp := place_any id (rd_of_strs hX.oM)
  have hsl : s.msgs.length ≤ 1000000 := Nat.le_trans (le_msg s id).msgs hs
  obtain ⟨AM, cM, rfl, _, _⟩ := own_slice hX.oM
  have x6 : W.cell? ⟨m, 6, none⟩ = some (.slice AM s.msgs.length cM) := hX.b.cell 6
  have f6 : W.frozen? ⟨m, 6, none⟩ = false := hX.b.frozen 6
  have hmW := hX.b.lt
  have hwB := hX.kept.size
  have hpl := place_lt s.msgs id
  have HX := Lib.hid hX
  have HP := Lib.hid hp
  obtain ⟨q, hq⟩ : ∃ q, q = placeF s.msgs id := ⟨_, rfl⟩
  rw [← hq] at HP hpl
  obtain ⟨r, hr⟩ : ∃ r, r = msgF s id := ⟨_, rfl⟩
  have hr2 := hr
  unfold msgF at hr2
  rw [← hq] at hr2
  rw [← hr]
  have HR := Lib.hid hr2
  clear hX hp hq hr hr2 hs
  go_enter Try.func85, Try.ntmps85
  go_wp2_with fail
  refine HP.out.mono ?_
  rintro e w' ⟨rfl, rfl⟩
  clear HP
  by_cases hq : q < 0
  · have hr := HR.out
    rw [if_pos hq] at hr
    have HR := Lib.hid hr
    clear hr
    go_wp2_with (at_builtin; refine wpList_append_lies _ rfl (.tmp 21) (.tmp 23) _ rfl wB.heap.size 9 j0 _ 1 16 Try.underlying30 hj0 hy0 hy1 hy2 rfl (by omega) (.slice AM s.msgs.length cM) s.msgs.length (s.msgs.map .string) rfl (HX.out.oM.alloc _) ⟨W.heap.size, 0, none⟩ 1 1 [.string id] rfl rfl (World.news_of_block (cs := #[.string id]) (t := 9) (fr := (0, 0)) (heap_alloc_new W _)) (by simp [Value.oneCell']) (by omega) (by unfold maxLen; omega) (by omega) (by simp; omega) (W.heap.size + 1) (by simp) ?_)
    intro gA cap w2 hown hgrow hat hlt
    have hne : (Value.slice AM s.msgs.length cM).ownBlock ≠ some m := fun e => by have := (HX.out.oM.lt m e).1; omega
    have hb2 := (HX.out.b.alloc (.cells #[.string id] 9)).grown hgrow (Ne.symm hne)
    have y6 : w2.cell? ⟨m, 6, none⟩ = some (.slice AM s.msgs.length cM) := hb2.cell 6
    have q6 : w2.frozen? ⟨m, 6, none⟩ = false := hb2.frozen 6
    have hl2 := hb2.lt
    have hX2 := HX.out.msg (id := id) hm hown hgrow
    have hc2 := HX.out.msg_ch hm hgrow (.slice (some ⟨gA, 0, none⟩) (s.msgs.length + 1) cap)
    have HX2 := Lib.hid hX2
    have HC2 := Lib.hid hc2
    clear hX2 hc2 hb2 hne hown hgrow hat x6 f6
    go_wp2_with fail
    go_ret
    rw [HR.out]
    exact ⟨ret_int (by simp <;> omega), ⟨_, HX2.out⟩, HC2.out⟩
  · have hr := HR.out
    rw [if_neg hq] at hr
    have HR := Lib.hid hr
    clear hr
    go_wp2_with fail
    go_ret
    rw [HR.out]
    exact ⟨rfl, ⟨_, HX.out⟩, ChT.refl _ _⟩

set_option maxRecDepth 100000 in
set_option maxHeartbeats 4000000 in
theorem fnode_any {C : FC} {wB W : World} {m : Nat} {s : FS} (n : NodeD) (hm : m < wB.heap.size) (hs : (addNode s n).2.nodes.length ≤ 1000000) (h : FW C wB m s W) :
    Calls Try.prog 79 #[.pointer (some ⟨m, 0, none⟩), .agg #[.int .i64 n.kind, .string n.id, .int .i64 n.src, .int .i64 n.dst, .int .i64 n.msg, .int .i64 n.reply, .bool n.loop]] W fun e w' => e = .returned (.int .i64 (addNode s n).1) ∧ FW C wB m (addNode s n).2 w' ∧ ChT [55, 95] W w' := by
  obtain ⟨gM, gN, gE, hX⟩ := h
  obtain ⟨i0, hi0, hz0, hz1, hz2⟩ := info_parts Try.infoGNode
  have hsl : s.nodes.length ≤ 1000000 := Nat.le_trans (le_node s n).nodes hs
  obtain ⟨AN, cN, rfl, _, _⟩ := own_slice hX.oN
  obtain ⟨T, hT⟩ : ∃ T, T = W.alloc (.cells #[.int .i64 n.kind, .string n.id, .int .i64 n.src, .int .i64 n.dst, .int .i64 n.msg, .int .i64 n.reply, .bool n.loop] 55) := ⟨_, rfl⟩
  obtain ⟨g, hg⟩ : ∃ g, g = W.heap.size := ⟨_, rfl⟩
  have hXT : FX C wB m s gM (.slice AN s.nodes.length cN) gE T := by rw [hT]; exact hX.alloc _
  have hBT : Blk T g 55 #[.int .i64 n.kind, .string n.id, .int .i64 n.src, .int .i64 n.dst, .int .i64 n.msg, .int .i64 n.reply, .bool n.loop] := by rw [hT, hg]; exact Blk.new _ _ _
  have hmT := hXT.b.lt
  have hwB := hXT.kept.size
  have hgB : wB.heap.size ≤ g := by rw [hg]; exact hX.kept.size
  have hneg : (Value.slice AN s.nodes.length cN).ownBlock ≠ some g := fun e => by have := (hX.oN.lt g e).2; omega
  have hcT : ChT [55, 95] W T := by rw [hT]; exact (ChT.refl _ _).alloc _
  have HXT := Lib.hid hXT
  have HBT := Lib.hid hBT
  have HCT := Lib.hid hcT
  have HT := Lib.hid hT.symm
  have HG := Lib.hid hg.symm
  have HNE := Lib.hid hneg
  clear hX hXT hBT hcT hT hg hs hneg
  go_enter Try.func79, Try.ntmps79
  go_upto_region 1 with fail
  rw [HT.out, HG.out]
  refine wp_region_HT 12 (fun U => Blk U m 95 (C.cells gM (.slice AN s.nodes.length cN) gE s.e) ∧ Blk U g 55 #[.int .i64 n.kind, .string n.id, .int .i64 n.src, .int .i64 n.dst, .int .i64 n.msg, .int .i64 n.reply, .bool n.loop]) (by kernel_rfl) (by decide) (⟨HXT.out.b, HBT.out⟩) (fun hHeld => ?_)
  refine ht_take 0 (v := ?vn_1) rfl (by kernel_rfl) (fun _ _ _ h => h) (Or.inl ⟨by rfl, ?hn_1⟩) hHeld ?rn_1
  case hn_1 => ((intro U hSw; have y7 : U.cell? ⟨m, 7, none⟩ = some (.slice AN s.nodes.length cN) := hSw.1.cell 7; have r0 : U.cell? ⟨g, 0, none⟩ = some (.int .i64 n.kind) := hSw.2.cell 0; have r1 : U.cell? ⟨g, 1, none⟩ = some (.string n.id) := hSw.2.cell 1; have r2 : U.cell? ⟨g, 2, none⟩ = some (.int .i64 n.src) := hSw.2.cell 2; have r3 : U.cell? ⟨g, 3, none⟩ = some (.int .i64 n.dst) := hSw.2.cell 3; have r4 : U.cell? ⟨g, 4, none⟩ = some (.int .i64 n.msg) := hSw.2.cell 4; have r5 : U.cell? ⟨g, 5, none⟩ = some (.int .i64 n.reply) := hSw.2.cell 5; have r6 : U.cell? ⟨g, 6, none⟩ = some (.bool n.loop) := hSw.2.cell 6; go_simp); (try (with_reducible rfl)))
  try simp only [Act.put, List.setIfInBounds_toArray, List.set_cons_zero, List.set_cons_succ]
  refine ht_take 1 (v := ?vn_2) rfl (by kernel_rfl) (fun _ _ _ h => h) (Or.inl ⟨by rfl, ?hn_2⟩) hHeld ?rn_2
  case hn_2 => ((intro U hSw; have y7 : U.cell? ⟨m, 7, none⟩ = some (.slice AN s.nodes.length cN) := hSw.1.cell 7; have r0 : U.cell? ⟨g, 0, none⟩ = some (.int .i64 n.kind) := hSw.2.cell 0; have r1 : U.cell? ⟨g, 1, none⟩ = some (.string n.id) := hSw.2.cell 1; have r2 : U.cell? ⟨g, 2, none⟩ = some (.int .i64 n.src) := hSw.2.cell 2; have r3 : U.cell? ⟨g, 3, none⟩ = some (.int .i64 n.dst) := hSw.2.cell 3; have r4 : U.cell? ⟨g, 4, none⟩ = some (.int .i64 n.msg) := hSw.2.cell 4; have r5 : U.cell? ⟨g, 5, none⟩ = some (.int .i64 n.reply) := hSw.2.cell 5; have r6 : U.cell? ⟨g, 6, none⟩ = some (.bool n.loop) := hSw.2.cell 6; go_simp); (try (with_reducible rfl)))
  try simp only [Act.put, List.setIfInBounds_toArray, List.set_cons_zero, List.set_cons_succ]
  refine ht_take 2 (v := ?vn_3) rfl (by kernel_rfl) (fun _ _ _ h => h) (Or.inl ⟨by rfl, ?hn_3⟩) hHeld ?rn_3
  case hn_3 => ((intro U hSw; have y7 : U.cell? ⟨m, 7, none⟩ = some (.slice AN s.nodes.length cN) := hSw.1.cell 7; have r0 : U.cell? ⟨g, 0, none⟩ = some (.int .i64 n.kind) := hSw.2.cell 0; have r1 : U.cell? ⟨g, 1, none⟩ = some (.string n.id) := hSw.2.cell 1; have r2 : U.cell? ⟨g, 2, none⟩ = some (.int .i64 n.src) := hSw.2.cell 2; have r3 : U.cell? ⟨g, 3, none⟩ = some (.int .i64 n.dst) := hSw.2.cell 3; have r4 : U.cell? ⟨g, 4, none⟩ = some (.int .i64 n.msg) := hSw.2.cell 4; have r5 : U.cell? ⟨g, 5, none⟩ = some (.int .i64 n.reply) := hSw.2.cell 5; have r6 : U.cell? ⟨g, 6, none⟩ = some (.bool n.loop) := hSw.2.cell 6; go_simp); (try (with_reducible rfl)))
  try simp only [Act.put, List.setIfInBounds_toArray, List.set_cons_zero, List.set_cons_succ]
  refine ht_take 3 (v := ?vn_4) rfl (by kernel_rfl) (fun _ _ _ h => h) (Or.inl ⟨by rfl, ?hn_4⟩) hHeld ?rn_4
  case hn_4 => ((intro U hSw; have y7 : U.cell? ⟨m, 7, none⟩ = some (.slice AN s.nodes.length cN) := hSw.1.cell 7; have r0 : U.cell? ⟨g, 0, none⟩ = some (.int .i64 n.kind) := hSw.2.cell 0; have r1 : U.cell? ⟨g, 1, none⟩ = some (.string n.id) := hSw.2.cell 1; have r2 : U.cell? ⟨g, 2, none⟩ = some (.int .i64 n.src) := hSw.2.cell 2; have r3 : U.cell? ⟨g, 3, none⟩ = some (.int .i64 n.dst) := hSw.2.cell 3; have r4 : U.cell? ⟨g, 4, none⟩ = some (.int .i64 n.msg) := hSw.2.cell 4; have r5 : U.cell? ⟨g, 5, none⟩ = some (.int .i64 n.reply) := hSw.2.cell 5; have r6 : U.cell? ⟨g, 6, none⟩ = some (.bool n.loop) := hSw.2.cell 6; go_simp); (try (with_reducible rfl)))
  try simp only [Act.put, List.setIfInBounds_toArray, List.set_cons_zero, List.set_cons_succ]
  refine ht_take 4 (v := ?vn_5) rfl (by kernel_rfl) (fun _ _ _ h => h) (Or.inl ⟨by rfl, ?hn_5⟩) hHeld ?rn_5
  case hn_5 => ((intro U hSw; have y7 : U.cell? ⟨m, 7, none⟩ = some (.slice AN s.nodes.length cN) := hSw.1.cell 7; have r0 : U.cell? ⟨g, 0, none⟩ = some (.int .i64 n.kind) := hSw.2.cell 0; have r1 : U.cell? ⟨g, 1, none⟩ = some (.string n.id) := hSw.2.cell 1; have r2 : U.cell? ⟨g, 2, none⟩ = some (.int .i64 n.src) := hSw.2.cell 2; have r3 : U.cell? ⟨g, 3, none⟩ = some (.int .i64 n.dst) := hSw.2.cell 3; have r4 : U.cell? ⟨g, 4, none⟩ = some (.int .i64 n.msg) := hSw.2.cell 4; have r5 : U.cell? ⟨g, 5, none⟩ = some (.int .i64 n.reply) := hSw.2.cell 5; have r6 : U.cell? ⟨g, 6, none⟩ = some (.bool n.loop) := hSw.2.cell 6; go_simp); (try (with_reducible rfl)))
  try simp only [Act.put, List.setIfInBounds_toArray, List.set_cons_zero, List.set_cons_succ]
  refine ht_take 5 (v := ?vn_6) rfl (by kernel_rfl) (fun _ _ _ h => h) (Or.inl ⟨by rfl, ?hn_6⟩) hHeld ?rn_6
  case hn_6 => ((intro U hSw; have y7 : U.cell? ⟨m, 7, none⟩ = some (.slice AN s.nodes.length cN) := hSw.1.cell 7; have r0 : U.cell? ⟨g, 0, none⟩ = some (.int .i64 n.kind) := hSw.2.cell 0; have r1 : U.cell? ⟨g, 1, none⟩ = some (.string n.id) := hSw.2.cell 1; have r2 : U.cell? ⟨g, 2, none⟩ = some (.int .i64 n.src) := hSw.2.cell 2; have r3 : U.cell? ⟨g, 3, none⟩ = some (.int .i64 n.dst) := hSw.2.cell 3; have r4 : U.cell? ⟨g, 4, none⟩ = some (.int .i64 n.msg) := hSw.2.cell 4; have r5 : U.cell? ⟨g, 5, none⟩ = some (.int .i64 n.reply) := hSw.2.cell 5; have r6 : U.cell? ⟨g, 6, none⟩ = some (.bool n.loop) := hSw.2.cell 6; go_simp); (try (with_reducible rfl)))
  try simp only [Act.put, List.setIfInBounds_toArray, List.set_cons_zero, List.set_cons_succ]
  refine ht_take 6 (v := ?vn_7) rfl (by kernel_rfl) (fun _ _ _ h => h) (Or.inl ⟨by rfl, ?hn_7⟩) hHeld ?rn_7
  case hn_7 => ((intro U hSw; have y7 : U.cell? ⟨m, 7, none⟩ = some (.slice AN s.nodes.length cN) := hSw.1.cell 7; have r0 : U.cell? ⟨g, 0, none⟩ = some (.int .i64 n.kind) := hSw.2.cell 0; have r1 : U.cell? ⟨g, 1, none⟩ = some (.string n.id) := hSw.2.cell 1; have r2 : U.cell? ⟨g, 2, none⟩ = some (.int .i64 n.src) := hSw.2.cell 2; have r3 : U.cell? ⟨g, 3, none⟩ = some (.int .i64 n.dst) := hSw.2.cell 3; have r4 : U.cell? ⟨g, 4, none⟩ = some (.int .i64 n.msg) := hSw.2.cell 4; have r5 : U.cell? ⟨g, 5, none⟩ = some (.int .i64 n.reply) := hSw.2.cell 5; have r6 : U.cell? ⟨g, 6, none⟩ = some (.bool n.loop) := hSw.2.cell 6; go_simp); (try (with_reducible rfl)))
  try simp only [Act.put, List.setIfInBounds_toArray, List.set_cons_zero, List.set_cons_succ]
  refine ht_one 7 rfl (by kernel_rfl) (fun K hK => ?_)
  go_simp
  refine hK.out _ _ (⟨hHeld.1.alloc _, hHeld.2.alloc _⟩) (fun hHeld => ?_)
  clear hK K
  try simp only [Act.put, List.setIfInBounds_toArray, List.set_cons_zero, List.set_cons_succ]
  refine ht_one 8 rfl (by kernel_rfl) (fun K hK => ?_)
  refine step_append_lies _ (by rfl) (.tmp 10) (.tmp 12) _ (by rfl) wB.heap.size 55 i0 _ 7 64 Try.underlying41 hi0 hz0 hz1 hz2 rfl (by omega) (.slice AN s.nodes.length cN) s.nodes.length (s.nodes.flatMap nodeV) (by rfl) (HXT.out.drew.oN.alloc _) ⟨T.heap.size, 0, none⟩ 1 1 [.int .i64 n.kind, .string n.id, .int .i64 n.src, .int .i64 n.dst, .int .i64 n.msg, .int .i64 n.reply, .bool n.loop] (by rfl) (by rfl) (World.news_of_block (cs := #[.int .i64 n.kind, .string n.id, .int .i64 n.src, .int .i64 n.dst, .int .i64 n.msg, .int .i64 n.reply, .bool n.loop]) (t := 55) (fr := (0, 0)) (heap_alloc_new T.drew _)) (by simp [Value.oneCell']) (by omega) (by unfold maxLen; omega) (by omega) (by simp; omega) (T.heap.size + 1) (by simp) ?_
  intro gA cap w2 hown hgrow hat hlt
  refine hK.out _ _ (⟨hHeld.1.grown hgrow (fun e => by have := (HXT.out.oN.lt m e.symm).1; omega), hHeld.2.grown hgrow (Ne.symm HNE.out)⟩) (fun hHeld => ?_)
  clear hK K
  try simp only [Act.put, List.setIfInBounds_toArray, List.set_cons_zero, List.set_cons_succ]
  refine ht_take 9 (v := ?vn_8) rfl (by kernel_rfl) (fun _ _ _ h => h) (Or.inl ⟨by rfl, ?hn_8⟩) hHeld ?rn_8
  case hn_8 => ((intro U hSw; have y7 : U.cell? ⟨m, 7, none⟩ = some (.slice AN s.nodes.length cN) := hSw.1.cell 7; have r0 : U.cell? ⟨g, 0, none⟩ = some (.int .i64 n.kind) := hSw.2.cell 0; have r1 : U.cell? ⟨g, 1, none⟩ = some (.string n.id) := hSw.2.cell 1; have r2 : U.cell? ⟨g, 2, none⟩ = some (.int .i64 n.src) := hSw.2.cell 2; have r3 : U.cell? ⟨g, 3, none⟩ = some (.int .i64 n.dst) := hSw.2.cell 3; have r4 : U.cell? ⟨g, 4, none⟩ = some (.int .i64 n.msg) := hSw.2.cell 4; have r5 : U.cell? ⟨g, 5, none⟩ = some (.int .i64 n.reply) := hSw.2.cell 5; have r6 : U.cell? ⟨g, 6, none⟩ = some (.bool n.loop) := hSw.2.cell 6; go_simp); (try (with_reducible rfl)))
  try simp only [Act.put, List.setIfInBounds_toArray, List.set_cons_zero, List.set_cons_succ]
  refine ht_take 10 (v := ?vn_9) rfl (by kernel_rfl) (fun _ _ _ h => h) (Or.inl ⟨by rfl, ?hn_9⟩) hHeld ?rn_9
  case hn_9 => ((intro U hSw; have y7 : U.cell? ⟨m, 7, none⟩ = some (.slice AN s.nodes.length cN) := hSw.1.cell 7; have r0 : U.cell? ⟨g, 0, none⟩ = some (.int .i64 n.kind) := hSw.2.cell 0; have r1 : U.cell? ⟨g, 1, none⟩ = some (.string n.id) := hSw.2.cell 1; have r2 : U.cell? ⟨g, 2, none⟩ = some (.int .i64 n.src) := hSw.2.cell 2; have r3 : U.cell? ⟨g, 3, none⟩ = some (.int .i64 n.dst) := hSw.2.cell 3; have r4 : U.cell? ⟨g, 4, none⟩ = some (.int .i64 n.msg) := hSw.2.cell 4; have r5 : U.cell? ⟨g, 5, none⟩ = some (.int .i64 n.reply) := hSw.2.cell 5; have r6 : U.cell? ⟨g, 6, none⟩ = some (.bool n.loop) := hSw.2.cell 6; go_simp); (try (with_reducible rfl)))
  try simp only [Act.put, List.setIfInBounds_toArray, List.set_cons_zero, List.set_cons_succ]
  refine ht_take 11 (v := ?vn_10) rfl (by kernel_rfl) (fun _ _ _ h => h) (Or.inl ⟨by rfl, ?hn_10⟩) hHeld ?rn_10
  case hn_10 => ((intro U hSw; have y7 : U.cell? ⟨m, 7, none⟩ = some (.slice AN s.nodes.length cN) := hSw.1.cell 7; have r0 : U.cell? ⟨g, 0, none⟩ = some (.int .i64 n.kind) := hSw.2.cell 0; have r1 : U.cell? ⟨g, 1, none⟩ = some (.string n.id) := hSw.2.cell 1; have r2 : U.cell? ⟨g, 2, none⟩ = some (.int .i64 n.src) := hSw.2.cell 2; have r3 : U.cell? ⟨g, 3, none⟩ = some (.int .i64 n.dst) := hSw.2.cell 3; have r4 : U.cell? ⟨g, 4, none⟩ = some (.int .i64 n.msg) := hSw.2.cell 4; have r5 : U.cell? ⟨g, 5, none⟩ = some (.int .i64 n.reply) := hSw.2.cell 5; have r6 : U.cell? ⟨g, 6, none⟩ = some (.bool n.loop) := hSw.2.cell 6; go_simp); (try (with_reducible rfl)))
  try simp only [Act.put, List.setIfInBounds_toArray, List.set_cons_zero, List.set_cons_succ]
  refine ht_done (by kernel_rfl) rfl ?_
  have hX2 := HXT.out.drew.node (n := n) hm hown hgrow
  have hc2 := HXT.out.drew.node_ch hm hgrow (.slice (some ⟨gA, 0, none⟩) (s.nodes.length + 1) cap)
  have y7 : w2.cell? ⟨m, 7, none⟩ = some (.slice AN s.nodes.length cN) := hHeld.1.cell 7
  have q7 : w2.frozen? ⟨m, 7, none⟩ = false := hHeld.1.frozen 7
  have hl2 := hHeld.1.lt
  have HX2 := Lib.hid hX2
  have HC2 := Lib.hid (HCT.out.trans (((ChT.refl _ T).drew).trans hc2))
  clear hX2 hc2 hown hgrow hat hHeld
  go_wp2_with fail
  go_ret
  exact ⟨ret_int (by simp [addNode] <;> omega), ⟨_, _, _, HX2.out⟩, HC2.out⟩
end Go.Proofs.Yteoioboiniealaa
