/- The contract of the maker's task. -/
import Derived.Test.YteoioboiniealaaFlaB
import Derived.Deep.CutBlock
namespace Go.Proofs.Yteoioboiniealaa
open Go.RowKit

theorem FX.strs {C : FC} {wB W : World} {m : Nat} {s : FS} {gM gN gE : Value} (h : FX C wB m s gM gN gE W) (hd : FD C wB m) {l : List ByteArray} {v : Value} (hr : Rd wB (strsD l) v) : Rd W (strsD l) v := by
  obtain ⟨cs, hb⟩ := hd.blk
  exact Rd.grown h.kept hb _ _ (free_strs _ (by decide) _) hr
theorem FX.box {C : FC} {wB W : World} {m g : Nat} {s : FS} {gM gN gE : Value} {cs : Array Value} (h : FX C wB m s gM gN gE W) (hb : Blk W g 55 cs) (hw : wB.heap.size ≤ g) (hne : gN.ownBlock ≠ some g) (i : Nat) (u : Value) : FX C wB m s gM gN gE (W.setCell ⟨g, i, none⟩ u) :=
  h.turned (grown_set W g i u) hb hw (by decide) (blk_own_ne h.oM hb (by decide)) hne (blk_own_ne h.oE hb (by decide))
theorem ch_new {ts : List TypeId} {w w1 : World} {g i : Nat} (u : Value) (h : ChT ts w w1) (hg : w.heap.size ≤ g) : ChT ts w (w1.setCell ⟨g, i, none⟩ u) :=
  ⟨h.os, h.tape, h.output, by have := h.size; simpa [World.setCell] using this, fun b cs t fr hb ht => (Below.heap_setCell w1 ⟨g, i, none⟩ u b (by
    rcases Nat.lt_or_ge b w.heap.size with hl | hl
    · show b ≠ g; omega
    · rw [Array.getElem?_eq_none hl] at hb; cases hb)).trans (h.typ b cs t fr hb ht)⟩
theorem findFrom_inF {α : Type} (p : α → Bool) : ∀ (l : List α) (j : Nat), ¬ findFrom p l j < 0 → ∃ i, i < l.length ∧ findFrom p l j = ((j + i : Nat) : Int)
  | [], j, h => by unfold findFrom at h; omega
  | a :: l, j, h => by
    unfold findFrom at h ⊢
    by_cases hp : p a = true
    · rw [if_pos hp]; exact ⟨0, by simp, by simp⟩
    · rw [if_neg hp] at h ⊢
      obtain ⟨i, hi, he⟩ := findFrom_inF p l (j + 1) h
      exact ⟨i + 1, by simp; omega, by rw [he]; congr 1; omega⟩
set_option maxRecDepth 100000 in
set_option maxHeartbeats 8000000 in
theorem ftask_any {C : FC} {wB W : World} {m : Nat} {s : FS} (x : ItemD) {A3 A4 A7 A8 A9 : Option Addr} {n3 n7 n8 n9 c3 c4 c7 c8 c9 : Nat} (hm : m < wB.heap.size) (hd : FD C wB m) (hfl : Rd wB (strsD x.flows) (.slice A4 x.flows.length c4))
    (hs1 : (taskF C.ps C.c.flows x s).2.msgs.length ≤ 1000000) (hs2 : (taskF C.ps C.c.flows x s).2.nodes.length ≤ 1000000) (h : FW C wB m s W) :
    Calls Try.prog 78 #[.pointer (some ⟨m, 0, none⟩), .agg #[.int .i64 x.kind, .string x.id, .string x.first, .slice A3 n3 c3, .slice A4 x.flows.length c4, .bool x.loop, .string x.called, .slice A7 n7 c7, .slice A8 n8 c8, .slice A9 n9 c9]] W fun e w' => e = .returned (.int .i64 (taskF C.ps C.c.flows x s).1) ∧ FW C wB m (taskF C.ps C.c.flows x s).2 w' ∧ ChT [9, 55, 95] W w' := by
  obtain ⟨gM0, gN, gE, hX⟩ := h
  obtain ⟨r, hr⟩ : ∃ r, r = taskG C.ps C.c.flows x.flows 0 (taskN x) s := ⟨_, rfl⟩
  have hE : taskF C.ps C.c.flows x s = taskE r := by rw [hr]; rfl
  rw [hE] at hs1 hs2 ⊢
  have hle := le_taskE r
  obtain ⟨R, hR⟩ : ∃ R, R = taskE r := ⟨_, rfl⟩
  rw [← hR] at hs1 hs2 hle ⊢
  have hrm : r.2.2.msgs.length ≤ 1000000 := Nat.le_trans hle.msgs hs1
  obtain ⟨gI, hgI⟩ : ∃ g, g = W.heap.size := ⟨_, rfl⟩
  obtain ⟨T, hT⟩ : ∃ T, T = (W.alloc (.cells #[.int .i64 x.kind, .string x.id, .string x.first, .slice A3 n3 c3, .slice A4 x.flows.length c4, .bool x.loop, .string x.called, .slice A7 n7 c7, .slice A8 n8 c8, .slice A9 n9 c9] 33)).alloc (.cells #[.int .i64 3, .string x.id, .int .i64 (-1), .int .i64 (-1), .int .i64 0, .int .i64 (-1), .bool x.loop] 55) := ⟨_, rfl⟩
  have bI : Blk T gI 33 #[.int .i64 x.kind, .string x.id, .string x.first, .slice A3 n3 c3, .slice A4 x.flows.length c4, .bool x.loop, .string x.called, .slice A7 n7 c7, .slice A8 n8 c8, .slice A9 n9 c9] := by rw [hT, hgI]; exact (Blk.new W _ _).alloc _
  have bn : Blk T (gI + 1) 55 #[.int .i64 3, .string x.id, .int .i64 (-1), .int .i64 (-1), .int .i64 0, .int .i64 (-1), .bool x.loop] := by
    have := Blk.new (W.alloc (.cells #[.int .i64 x.kind, .string x.id, .string x.first, .slice A3 n3 c3, .slice A4 x.flows.length c4, .bool x.loop, .string x.called, .slice A7 n7 c7, .slice A8 n8 c8, .slice A9 n9 c9] 33)) 55 #[.int .i64 3, .string x.id, .int .i64 (-1), .int .i64 (-1), .int .i64 0, .int .i64 (-1), .bool x.loop]
    rw [hT, hgI]
    simpa using this
  have hXT : FX C wB m s gM0 gN gE T := by rw [hT]; exact (hX.alloc _).alloc _
  have hcT : ChT [9, 55, 95] W T := by rw [hT]; exact ((ChT.refl _ _).alloc _).alloc _
  have hwI : wB.heap.size ≤ gI := by rw [hgI]; exact hX.kept.size
  have hneN : gN.ownBlock ≠ some (gI + 1) := fun e => by have := (hX.oN.lt _ e).2; omega
  have hxl : x.flows.length ≤ maxLen := by
    obtain ⟨_, _, h1, h2, h3, _⟩ := rd_at strC_len hfl
    omega
  unfold maxLen at hxl
  have HXT := Lib.hid hXT
  have HCT := Lib.hid hcT
  have HBI := Lib.hid bI
  have HBN := Lib.hid bn
  have HNE := Lib.hid hneN
  have HD := Lib.hid hd
  have HFL := Lib.hid hfl
  have HR := Lib.hid hR
  have HRR := Lib.hid hr.symm
  have HT := Lib.hid hT.symm
  have HGI := Lib.hid hgI.symm
  have i4 : T.cell? ⟨gI, 4, none⟩ = some (.slice A4 x.flows.length c4) := bI.cell 4
  clear hX hXT hcT bI bn hneN hd hfl hR hr hT hE hle hs1
  go_enter Try.func78, Try.ntmps78
  go_upto_region 2 with fail
  rw [HT.out, HGI.out]
  clear hgI HT
  go_wp2_with fail
  clear i4
  go_loopw [18] (fun iv wr => ∃ (k : Nat) (n : NodeD) (s' : FS) (gM : Value), k ≤ x.flows.length ∧ iv = .int .i64 k ∧ Hid (taskG C.ps C.c.flows (x.flows.drop k) k n s' = r) ∧ FX C wB m s' gM gN gE wr ∧ Blk wr gI 33 #[.int .i64 x.kind, .string x.id, .string x.first, .slice A3 n3 c3, .slice A4 x.flows.length c4, .bool x.loop, .string x.called, .slice A7 n7 c7, .slice A8 n8 c8, .slice A9 n9 c9] ∧ Blk wr (gI + 1) 55 #[.int .i64 n.kind, .string n.id, .int .i64 n.src, .int .i64 n.dst, .int .i64 n.msg, .int .i64 n.reply, .bool n.loop] ∧ ChT [9, 55, 95] W wr) (fun iv _ => x.flows.length - (intOf iv).toNat)
  case atStart => exact ⟨0, taskN x, s, gM0, Nat.zero_le _, rfl, HRR.out, HXT.out, HBI.out, HBN.out, HCT.out⟩
  case round =>
    clear HXT HCT HBI HBN HRR
    obtain ⟨k, n, s', gM, hk, rfl, hinv, hX, hBI, hBN, hC⟩ := hrel
    obtain ⟨V, rfl⟩ : ∃ V, V = wr := ⟨_, rfl⟩
    have HBI := Lib.hid hBI
    have HC := Lib.hid hC
    by_cases hlt : k < x.flows.length
    · have hfw := hX.strs HD.out HFL.out
      obtain ⟨A4x, c4x, hv4, _, _, hat⟩ := rd_at strC_len hfw
      injection hv4 with e1 _ e3
      subst e1
      subst e3
      obtain ⟨b, vs, rfl, hb, _, hvs, hcell⟩ := hat k hlt
      obtain ⟨f, hf⟩ : ∃ f, f = x.flows[k] := ⟨_, rfl⟩
      have hd : x.flows.drop k = f :: x.flows.drop (k + 1) := by rw [hf]; exact List.drop_eq_getElem_cons hlt
      rw [← hf] at hvs
      obtain rfl := rd_strC hvs
      have x0 : V.cell? ⟨b, k, none⟩ = some (.string f) := by have := hcell 0 (by omega); simpa using this
      have hi := hinv.out
      rw [hd] at hi
      unfold taskG at hi
      have hcall := idsFlow_any (w := V) (vId := .string C.c.id) (vP := .slice C.AP C.c.parts.length C.cP) (vI := .slice C.AI C.c.items.length C.cI) (vS := .slice C.AS C.c.seqs.length C.cS) f (hX.flows HD.out)
      have hin := findFrom_inF (fun x : FlowD => eqS x.id f) C.c.flows 0
      obtain ⟨q, hq⟩ : ∃ q, q = findFrom (fun x : FlowD => eqS x.id f) C.c.flows 0 := ⟨_, rfl⟩
      rw [← hq] at hi hcall hin
      have y0 : V.cell? ⟨m, 0, none⟩ = some (.string C.c.id) := hX.b.cell 0
      have y1 : V.cell? ⟨m, 1, none⟩ = some (.slice C.AP C.c.parts.length C.cP) := hX.b.cell 1
      have y2 : V.cell? ⟨m, 2, none⟩ = some (.slice C.AF C.c.flows.length C.cF) := hX.b.cell 2
      have y3 : V.cell? ⟨m, 3, none⟩ = some (.slice C.AI C.c.items.length C.cI) := hX.b.cell 3
      have y4 : V.cell? ⟨m, 4, none⟩ = some (.slice C.AS C.c.seqs.length C.cS) := hX.b.cell 4
      have HCALL := Lib.hid hcall
      have HX := Lib.hid hX
      have HBN := Lib.hid hBN
      have HIN := Lib.hid hin
      have HI := Lib.hid hi
      clear hX hBI hBN hC hinv hfw hat hcell hf hd hvs hi hcall hin hq
      have hkI : (k : Int) < (x.flows.length : Int) := by omega
      go_wp2_with fail
      refine HCALL.out.mono ?_
      rintro e w1 ⟨rfl, hb1⟩
      clear HCALL x0 y0 y1 y2 y3 y4
      have hX1 := HX.out.below hb1
      have hBI1 := HBI.out.below hb1 HBI.out.lt
      have hBN1 := HBN.out.below hb1 HBN.out.lt
      have hC1 := HC.out.below hb1
      clear HX HBI HBN HC hb1
      by_cases hq0 : q < 0
      · have hi := HI.out
        rw [if_pos (Or.inl hq0)] at hi
        have hR := HR.out
        rw [← hi] at hR
        have hle := le_node (noneF s') n
        have hsz : (addNode (noneF s') n).2.nodes.length ≤ 1000000 := by rw [hR] at hs2; exact hs2
        have HRn := Lib.hid (show R = addNode (noneF s') n from hR)
        have y9 : w1.cell? ⟨m, 9, none⟩ = some (.int .i64 s'.e) := hX1.b.cell 9
        have q9 : w1.frozen? ⟨m, 9, none⟩ = false := hX1.b.frozen 9
        have hml := hX1.b.lt
        have hneI : gI + 1 ≠ m := by omega
        obtain ⟨V2, hV2⟩ : ∃ V, V = w1.setCell ⟨m, 9, none⟩ (.int .i64 6) := ⟨_, rfl⟩
        have hX3 : FX C wB m (noneF s') gM gN gE V2 := by rw [hV2]; exact hX1.none_ hm
        have hB3 : Blk V2 (gI + 1) 55 #[.int .i64 n.kind, .string n.id, .int .i64 n.src, .int .i64 n.dst, .int .i64 n.msg, .int .i64 n.reply, .bool n.loop] := by rw [hV2]; exact hBN1.far hneI _
        have hC3 : ChT [9, 55, 95] W V2 := by rw [hV2]; exact hC1.trans (hX1.none_ch _ (by decide))
        have HV2 := Lib.hid hV2.symm
        have HX3 := Lib.hid hX3
        have HB3 := Lib.hid hB3
        have HC3 := Lib.hid hC3
        clear hX1 hBI1 hBN1 hC1 hi hR hX3 hB3 hC3 hV2 HI HIN
        go_upto_region 8 with fail
        rw [HV2.out]
        clear y9 q9 HV2
        have r0 : V2.cell? ⟨gI + 1, 0, none⟩ = some (.int .i64 n.kind) := HB3.out.cell 0
        have r1 : V2.cell? ⟨gI + 1, 1, none⟩ = some (.string n.id) := HB3.out.cell 1
        have r2 : V2.cell? ⟨gI + 1, 2, none⟩ = some (.int .i64 n.src) := HB3.out.cell 2
        have r3 : V2.cell? ⟨gI + 1, 3, none⟩ = some (.int .i64 n.dst) := HB3.out.cell 3
        have r4 : V2.cell? ⟨gI + 1, 4, none⟩ = some (.int .i64 n.msg) := HB3.out.cell 4
        have r5 : V2.cell? ⟨gI + 1, 5, none⟩ = some (.int .i64 n.reply) := HB3.out.cell 5
        have r6 : V2.cell? ⟨gI + 1, 6, none⟩ = some (.bool n.loop) := HB3.out.cell 6
        have hml3 := HX3.out.b.lt
        go_wp2_with fail
        refine (fnode_any n hm hsz ⟨_, _, _, HX3.out⟩).mono ?_
        rintro e w3 ⟨rfl, hF, hc⟩
        go_wp2_with fail
        go_ret
        rw [HRn.out]
        exact ⟨rfl, hF, HC3.out.trans (hc.mono (by decide))⟩
      · obtain ⟨j, hj, hjq⟩ := HIN.out (by omega)
        rw [Nat.zero_add] at hjq
        by_cases hk1 : 1 < k
        · have hi := HI.out
          rw [if_pos (Or.inr hk1)] at hi
          have hR := HR.out
          rw [← hi] at hR
          have hle := le_node (noneF s') n
          have hsz : (addNode (noneF s') n).2.nodes.length ≤ 1000000 := by rw [hR] at hs2; exact hs2
          have HRn := Lib.hid (show R = addNode (noneF s') n from hR)
          have y9 : w1.cell? ⟨m, 9, none⟩ = some (.int .i64 s'.e) := hX1.b.cell 9
          have q9 : w1.frozen? ⟨m, 9, none⟩ = false := hX1.b.frozen 9
          have hml := hX1.b.lt
          have hneI : gI + 1 ≠ m := by omega
          obtain ⟨V2, hV2⟩ : ∃ V, V = w1.setCell ⟨m, 9, none⟩ (.int .i64 6) := ⟨_, rfl⟩
          have hX3 : FX C wB m (noneF s') gM gN gE V2 := by rw [hV2]; exact hX1.none_ hm
          have hB3 : Blk V2 (gI + 1) 55 #[.int .i64 n.kind, .string n.id, .int .i64 n.src, .int .i64 n.dst, .int .i64 n.msg, .int .i64 n.reply, .bool n.loop] := by rw [hV2]; exact hBN1.far hneI _
          have hC3 : ChT [9, 55, 95] W V2 := by rw [hV2]; exact hC1.trans (hX1.none_ch _ (by decide))
          have HV2 := Lib.hid hV2.symm
          have HX3 := Lib.hid hX3
          have HB3 := Lib.hid hB3
          have HC3 := Lib.hid hC3
          clear hX1 hBI1 hBN1 hC1 hi hR hX3 hB3 hC3 hV2 HI HIN
          go_upto_region 8 with fail
          rw [HV2.out]
          clear y9 q9 HV2
          have r0 : V2.cell? ⟨gI + 1, 0, none⟩ = some (.int .i64 n.kind) := HB3.out.cell 0
          have r1 : V2.cell? ⟨gI + 1, 1, none⟩ = some (.string n.id) := HB3.out.cell 1
          have r2 : V2.cell? ⟨gI + 1, 2, none⟩ = some (.int .i64 n.src) := HB3.out.cell 2
          have r3 : V2.cell? ⟨gI + 1, 3, none⟩ = some (.int .i64 n.dst) := HB3.out.cell 3
          have r4 : V2.cell? ⟨gI + 1, 4, none⟩ = some (.int .i64 n.msg) := HB3.out.cell 4
          have r5 : V2.cell? ⟨gI + 1, 5, none⟩ = some (.int .i64 n.reply) := HB3.out.cell 5
          have r6 : V2.cell? ⟨gI + 1, 6, none⟩ = some (.bool n.loop) := HB3.out.cell 6
          have hml3 := HX3.out.b.lt
          go_wp2_with fail
          refine (fnode_any n hm hsz ⟨_, _, _, HX3.out⟩).mono ?_
          rintro e w3 ⟨rfl, hF, hc⟩
          go_wp2_with fail
          go_ret
          rw [HRn.out]
          exact ⟨rfl, hF, HC3.out.trans (hc.mono (by decide))⟩
        · have hi := HI.out
          rw [if_neg (by omega), hjq, Int.toNat_natCast, List.getElem?_eq_getElem hj] at hi
          dsimp only at hi
          obtain ⟨fx, hfx⟩ : ∃ fx, fx = C.c.flows[j] := ⟨_, rfl⟩
          rw [← hfx] at hi
          subst hjq
          obtain ⟨AFx, cFx, hvF, _, _, hatF⟩ := rd_at flowC_len (hX1.flows HD.out)
          injection hvF with e1 _ e3
          obtain ⟨bF, vsF, hbFe, hbF, _, hvsF, hcellF⟩ := hatF j hj
          rw [← hfx] at hvsF
          obtain rfl := rd_flowC hvsF
          have v2 : w1.cell? ⟨m, 2, none⟩ = some (.slice (some ⟨bF, 0, none⟩) C.c.flows.length C.cF) := by rw [← hbFe, ← e1]; exact hX1.b.cell 2
          have e0 : w1.cell? ⟨bF, j * 4, none⟩ = some (.string fx.id) := hcellF 0 (by omega)
          have e1 : w1.cell? ⟨bF, j * 4 + 1, none⟩ = some (.string fx.src) := hcellF 1 (by omega)
          have e2 : w1.cell? ⟨bF, j * 4 + 2, none⟩ = some (.string fx.dst) := hcellF 2 (by omega)
          have e3 : w1.cell? ⟨bF, j * 4 + 3, none⟩ = some (.string fx.msg) := hcellF 3 (by omega)
          have hfl1 := HD.out.fll
          obtain ⟨T1, hT1⟩ : ∃ T, T = w1.alloc (.cells #[.string fx.id, .string fx.src, .string fx.dst, .string fx.msg] 40) := ⟨_, rfl⟩
          obtain ⟨g9, hg9⟩ : ∃ g, g = w1.heap.size := ⟨_, rfl⟩
          have bT1 : Below w1.heap.size w1 T1 := by rw [hT1]; exact (Below.refl _ _).alloc (Nat.le_refl _) _
          have b9 : Blk T1 g9 40 #[.string fx.id, .string fx.src, .string fx.dst, .string fx.msg] := by rw [hT1, hg9]; exact Blk.new _ _ _
          have hX2 := hX1.below bT1
          have hBI2 := hBI1.below bT1 hBI1.lt
          have hBN2 := hBN1.below bT1 hBN1.lt
          have hC2 := hC1.below bT1
          have HT1 := Lib.hid hT1.symm
          have HG9 := Lib.hid hg9.symm
          have hjI : (j : Int) < (C.c.flows.length : Int) := by omega
          have HX1 := Lib.hid hX1
          have hml := hX1.b.lt
          have HIX := Lib.hid hi
          clear hX1 hBI1 hBN1 hC1 HI HIN hatF hcellF hfx hvsF bT1 hT1 hg9 hi
          go_upto_region 10 with fail
          rw [HT1.out, HG9.out]
          have hi := HIX.out
          clear e0 e1 e2 e3 v2 HIX HX1
          by_cases hk2 : k = 1
          · rw [if_pos hk2] at hi
            have hsz := Nat.le_trans (le_taskG C.ps C.c.flows (x.flows.drop (k + 1)) (k + 1) ⟨n.kind, n.id, n.src, n.dst, n.msg, (msgF s' fx.msg).1, n.loop⟩ (msgF s' fx.msg).2).msgs (by rw [hi]; exact hrm)
            have hcall := fmsg_any fx.msg hm hsz hX2
            have HCALL := Lib.hid hcall
            have HI := Lib.hid hi
            clear hi hcall
            have HX2 := Lib.hid hX2
            have HBI2 := Lib.hid hBI2
            have HBN2 := Lib.hid hBN2
            have HC2 := Lib.hid hC2
            have z3 : T1.cell? ⟨g9, 3, none⟩ = some (.string fx.msg) := b9.cell 3
            clear hX2 hBI2 hBN2 hC2 b9
            go_wp2_with fail
            refine HCALL.out.mono ?_
            rintro e w3 ⟨rfl, ⟨gM', hX3⟩, hc3⟩
            have hB3 := HBN2.out.ch hc3 (by decide)
            have hI3 := HBI2.out.ch hc3 (by decide)
            have hC3 := HC2.out.trans (hc3.mono (by decide))
            have r5 : w3.cell? ⟨gI + 1, 5, none⟩ = some (.int .i64 n.reply) := hB3.cell 5
            have f5 : w3.frozen? ⟨gI + 1, 5, none⟩ = false := hB3.frozen 5
            have hl3 := hB3.lt
            have hX4 := hX3.box hB3 (by omega) HNE.out 5 (.int .i64 (msgF s' fx.msg).1)
            have hB4 := hB3.set_ 5 (.int .i64 (msgF s' fx.msg).1)
            have hI4 := hI3.far (p := ⟨gI + 1, 5, none⟩) (show gI ≠ gI + 1 by omega) (.int .i64 (msgF s' fx.msg).1)
            have hC4 := ch_new (i := 5) (g := gI + 1) (.int .i64 (msgF s' fx.msg).1) hC3 (by have := HGI.out; omega)
            have HX4 := Lib.hid hX4
            have HB4 := Lib.hid hB4
            have HI4 := Lib.hid hI4
            have HC4 := Lib.hid hC4
            clear hX3 hB3 hI3 hC3 hX4 hB4 hI4 hC4 hc3 z3
            go_wp2_with fail
            go_roundw
            case rel => exact ⟨k + 1, ⟨n.kind, n.id, n.src, n.dst, n.msg, (msgF s' fx.msg).1, n.loop⟩, (msgF s' fx.msg).2, gM', by omega, by go_num, HI, HX4.out, HI4.out, HB4.out, HC4.out⟩
            case measure => simp [intOf]; omega
          · rw [if_neg hk2] at hi
            have hk0 : k = 0 := by omega
            have hsz := Nat.le_trans (le_taskG C.ps C.c.flows (x.flows.drop (k + 1)) (k + 1) ⟨n.kind, n.id, placeF C.ps fx.src, placeF C.ps fx.dst, (msgF s' fx.msg).1, n.reply, n.loop⟩ (msgF s' fx.msg).2).msgs (by rw [hi]; exact hrm)
            have HI := Lib.hid hi
            clear hi
            have HBI2 := Lib.hid hBI2
            have HC2 := Lib.hid hC2
            clear hBI2 hC2
            go_upto_region 12 with fail
            refine wp_region_HT 21 (fun U => Blk U g9 40 #[.string fx.id, .string fx.src, .string fx.dst, .string fx.msg] ∧ Blk U (gI + 1) 55 #[.int .i64 n.kind, .string n.id, .int .i64 n.src, .int .i64 n.dst, .int .i64 n.msg, .int .i64 n.reply, .bool n.loop] ∧ U.cell? ⟨m, 5, none⟩ = some (.slice C.AG C.ps.length C.cG)) (by kernel_rfl) (by decide) (⟨b9, hBN2, hX2.b.cell 5⟩) (fun hHeld => ?_)
            refine ht_take 0 (v := ?vt_1) rfl (by kernel_rfl) (fun _ _ _ h => h) (Or.inl ⟨by rfl, ?ht_1⟩) hHeld ?rt_1
            case ht_1 => ((intro U hSw; have y5 : U.cell? ⟨m, 5, none⟩ = some (.slice C.AG C.ps.length C.cG) := hSw.2.2; have z0 : U.cell? ⟨g9, 0, none⟩ = some (.string fx.id) := hSw.1.cell 0; have z1 : U.cell? ⟨g9, 1, none⟩ = some (.string fx.src) := hSw.1.cell 1; have z2 : U.cell? ⟨g9, 2, none⟩ = some (.string fx.dst) := hSw.1.cell 2; have z3 : U.cell? ⟨g9, 3, none⟩ = some (.string fx.msg) := hSw.1.cell 3; go_simp); (try (with_reducible rfl)))
            try simp only [Act.put, List.setIfInBounds_toArray, List.set_cons_zero, List.set_cons_succ]
            refine ht_take 1 (v := ?vt_2) rfl (by kernel_rfl) (fun _ _ _ h => h) (Or.inl ⟨by rfl, ?ht_2⟩) hHeld ?rt_2
            case ht_2 => ((intro U hSw; have y5 : U.cell? ⟨m, 5, none⟩ = some (.slice C.AG C.ps.length C.cG) := hSw.2.2; have z0 : U.cell? ⟨g9, 0, none⟩ = some (.string fx.id) := hSw.1.cell 0; have z1 : U.cell? ⟨g9, 1, none⟩ = some (.string fx.src) := hSw.1.cell 1; have z2 : U.cell? ⟨g9, 2, none⟩ = some (.string fx.dst) := hSw.1.cell 2; have z3 : U.cell? ⟨g9, 3, none⟩ = some (.string fx.msg) := hSw.1.cell 3; go_simp); (try (with_reducible rfl)))
            try simp only [Act.put, List.setIfInBounds_toArray, List.set_cons_zero, List.set_cons_succ]
            refine ht_take 2 (v := ?vt_3) rfl (by kernel_rfl) (fun _ _ _ h => h) (Or.inl ⟨by rfl, ?ht_3⟩) hHeld ?rt_3
            case ht_3 => ((intro U hSw; have y5 : U.cell? ⟨m, 5, none⟩ = some (.slice C.AG C.ps.length C.cG) := hSw.2.2; have z0 : U.cell? ⟨g9, 0, none⟩ = some (.string fx.id) := hSw.1.cell 0; have z1 : U.cell? ⟨g9, 1, none⟩ = some (.string fx.src) := hSw.1.cell 1; have z2 : U.cell? ⟨g9, 2, none⟩ = some (.string fx.dst) := hSw.1.cell 2; have z3 : U.cell? ⟨g9, 3, none⟩ = some (.string fx.msg) := hSw.1.cell 3; go_simp); (try (with_reducible rfl)))
            try simp only [Act.put, List.setIfInBounds_toArray, List.set_cons_zero, List.set_cons_succ]
            refine ht_take 3 (v := ?vt_4) rfl (by kernel_rfl) (fun _ _ _ h => h) (Or.inl ⟨by rfl, ?ht_4⟩) hHeld ?rt_4
            case ht_4 => ((intro U hSw; have y5 : U.cell? ⟨m, 5, none⟩ = some (.slice C.AG C.ps.length C.cG) := hSw.2.2; have z0 : U.cell? ⟨g9, 0, none⟩ = some (.string fx.id) := hSw.1.cell 0; have z1 : U.cell? ⟨g9, 1, none⟩ = some (.string fx.src) := hSw.1.cell 1; have z2 : U.cell? ⟨g9, 2, none⟩ = some (.string fx.dst) := hSw.1.cell 2; have z3 : U.cell? ⟨g9, 3, none⟩ = some (.string fx.msg) := hSw.1.cell 3; go_simp); (try (with_reducible rfl)))
            try simp only [Act.put, List.setIfInBounds_toArray, List.set_cons_zero, List.set_cons_succ]
            refine ht_take 4 (v := ?vt_5) rfl (by kernel_rfl) (fun _ _ _ h => h) (Or.inl ⟨by rfl, ?ht_5⟩) hHeld ?rt_5
            case ht_5 => ((intro U hSw; have y5 : U.cell? ⟨m, 5, none⟩ = some (.slice C.AG C.ps.length C.cG) := hSw.2.2; have z0 : U.cell? ⟨g9, 0, none⟩ = some (.string fx.id) := hSw.1.cell 0; have z1 : U.cell? ⟨g9, 1, none⟩ = some (.string fx.src) := hSw.1.cell 1; have z2 : U.cell? ⟨g9, 2, none⟩ = some (.string fx.dst) := hSw.1.cell 2; have z3 : U.cell? ⟨g9, 3, none⟩ = some (.string fx.msg) := hSw.1.cell 3; go_simp); (try (with_reducible rfl)))
            try simp only [Act.put, List.setIfInBounds_toArray, List.set_cons_zero, List.set_cons_succ]
            refine ht_take 5 (v := ?vt_6) rfl (by kernel_rfl) (fun _ _ _ h => h) (Or.inl ⟨by rfl, ?ht_6⟩) hHeld ?rt_6
            case ht_6 => ((intro U hSw; have y5 : U.cell? ⟨m, 5, none⟩ = some (.slice C.AG C.ps.length C.cG) := hSw.2.2; have z0 : U.cell? ⟨g9, 0, none⟩ = some (.string fx.id) := hSw.1.cell 0; have z1 : U.cell? ⟨g9, 1, none⟩ = some (.string fx.src) := hSw.1.cell 1; have z2 : U.cell? ⟨g9, 2, none⟩ = some (.string fx.dst) := hSw.1.cell 2; have z3 : U.cell? ⟨g9, 3, none⟩ = some (.string fx.msg) := hSw.1.cell 3; go_simp); (try (with_reducible rfl)))
            try simp only [Act.put, List.setIfInBounds_toArray, List.set_cons_zero, List.set_cons_succ]
            refine ht_take 6 (v := ?vt_7) rfl (by kernel_rfl) (fun _ _ _ h => h) (Or.inl ⟨by rfl, ?ht_7⟩) hHeld ?rt_7
            case ht_7 => ((intro U hSw; have y5 : U.cell? ⟨m, 5, none⟩ = some (.slice C.AG C.ps.length C.cG) := hSw.2.2; have z0 : U.cell? ⟨g9, 0, none⟩ = some (.string fx.id) := hSw.1.cell 0; have z1 : U.cell? ⟨g9, 1, none⟩ = some (.string fx.src) := hSw.1.cell 1; have z2 : U.cell? ⟨g9, 2, none⟩ = some (.string fx.dst) := hSw.1.cell 2; have z3 : U.cell? ⟨g9, 3, none⟩ = some (.string fx.msg) := hSw.1.cell 3; go_simp); (try (with_reducible rfl)))
            try simp only [Act.put, List.setIfInBounds_toArray, List.set_cons_zero, List.set_cons_succ]
            refine ht_take 8 (v := ?vt_8) rfl (by kernel_rfl) (fun _ _ _ h => h) (Or.inl ⟨by rfl, ?ht_8⟩) hHeld ?rt_8
            case ht_8 => ((intro U hSw; have y5 : U.cell? ⟨m, 5, none⟩ = some (.slice C.AG C.ps.length C.cG) := hSw.2.2; have z0 : U.cell? ⟨g9, 0, none⟩ = some (.string fx.id) := hSw.1.cell 0; have z1 : U.cell? ⟨g9, 1, none⟩ = some (.string fx.src) := hSw.1.cell 1; have z2 : U.cell? ⟨g9, 2, none⟩ = some (.string fx.dst) := hSw.1.cell 2; have z3 : U.cell? ⟨g9, 3, none⟩ = some (.string fx.msg) := hSw.1.cell 3; go_simp); (try (with_reducible rfl)))
            try simp only [Act.put, List.setIfInBounds_toArray, List.set_cons_zero, List.set_cons_succ]
            refine ht_take 9 (v := ?vt_9) rfl (by kernel_rfl) (fun _ _ _ h => h) (Or.inl ⟨by rfl, ?ht_9⟩) hHeld ?rt_9
            case ht_9 => ((intro U hSw; have y5 : U.cell? ⟨m, 5, none⟩ = some (.slice C.AG C.ps.length C.cG) := hSw.2.2; have z0 : U.cell? ⟨g9, 0, none⟩ = some (.string fx.id) := hSw.1.cell 0; have z1 : U.cell? ⟨g9, 1, none⟩ = some (.string fx.src) := hSw.1.cell 1; have z2 : U.cell? ⟨g9, 2, none⟩ = some (.string fx.dst) := hSw.1.cell 2; have z3 : U.cell? ⟨g9, 3, none⟩ = some (.string fx.msg) := hSw.1.cell 3; go_simp); (try (with_reducible rfl)))
            try simp only [Act.put, List.setIfInBounds_toArray, List.set_cons_zero, List.set_cons_succ]
            refine ht_take 10 (v := ?vt_10) rfl (by kernel_rfl) (fun _ _ _ h => h) (Or.inl ⟨by rfl, ?ht_10⟩) hHeld ?rt_10
            case ht_10 => ((intro U hSw; have y5 : U.cell? ⟨m, 5, none⟩ = some (.slice C.AG C.ps.length C.cG) := hSw.2.2; have z0 : U.cell? ⟨g9, 0, none⟩ = some (.string fx.id) := hSw.1.cell 0; have z1 : U.cell? ⟨g9, 1, none⟩ = some (.string fx.src) := hSw.1.cell 1; have z2 : U.cell? ⟨g9, 2, none⟩ = some (.string fx.dst) := hSw.1.cell 2; have z3 : U.cell? ⟨g9, 3, none⟩ = some (.string fx.msg) := hSw.1.cell 3; go_simp); (try (with_reducible rfl)))
            try simp only [Act.put, List.setIfInBounds_toArray, List.set_cons_zero, List.set_cons_succ]
            refine ht_take 11 (v := ?vt_11) rfl (by kernel_rfl) (fun _ _ _ h => h) (Or.inl ⟨by rfl, ?ht_11⟩) hHeld ?rt_11
            case ht_11 => ((intro U hSw; have y5 : U.cell? ⟨m, 5, none⟩ = some (.slice C.AG C.ps.length C.cG) := hSw.2.2; have z0 : U.cell? ⟨g9, 0, none⟩ = some (.string fx.id) := hSw.1.cell 0; have z1 : U.cell? ⟨g9, 1, none⟩ = some (.string fx.src) := hSw.1.cell 1; have z2 : U.cell? ⟨g9, 2, none⟩ = some (.string fx.dst) := hSw.1.cell 2; have z3 : U.cell? ⟨g9, 3, none⟩ = some (.string fx.msg) := hSw.1.cell 3; go_simp); (try (with_reducible rfl)))
            try simp only [Act.put, List.setIfInBounds_toArray, List.set_cons_zero, List.set_cons_succ]
            refine ht_take 12 (v := ?vt_12) rfl (by kernel_rfl) (fun _ _ _ h => h) (Or.inl ⟨by rfl, ?ht_12⟩) hHeld ?rt_12
            case ht_12 => ((intro U hSw; have y5 : U.cell? ⟨m, 5, none⟩ = some (.slice C.AG C.ps.length C.cG) := hSw.2.2; have z0 : U.cell? ⟨g9, 0, none⟩ = some (.string fx.id) := hSw.1.cell 0; have z1 : U.cell? ⟨g9, 1, none⟩ = some (.string fx.src) := hSw.1.cell 1; have z2 : U.cell? ⟨g9, 2, none⟩ = some (.string fx.dst) := hSw.1.cell 2; have z3 : U.cell? ⟨g9, 3, none⟩ = some (.string fx.msg) := hSw.1.cell 3; go_simp); (try (with_reducible rfl)))
            try simp only [Act.put, List.setIfInBounds_toArray, List.set_cons_zero, List.set_cons_succ]
            refine ht_take 13 (v := ?vt_13) rfl (by kernel_rfl) (fun _ _ _ h => h) (Or.inl ⟨by rfl, ?ht_13⟩) hHeld ?rt_13
            case ht_13 => ((intro U hSw; have y5 : U.cell? ⟨m, 5, none⟩ = some (.slice C.AG C.ps.length C.cG) := hSw.2.2; have z0 : U.cell? ⟨g9, 0, none⟩ = some (.string fx.id) := hSw.1.cell 0; have z1 : U.cell? ⟨g9, 1, none⟩ = some (.string fx.src) := hSw.1.cell 1; have z2 : U.cell? ⟨g9, 2, none⟩ = some (.string fx.dst) := hSw.1.cell 2; have z3 : U.cell? ⟨g9, 3, none⟩ = some (.string fx.msg) := hSw.1.cell 3; go_simp); (try (with_reducible rfl)))
            try simp only [Act.put, List.setIfInBounds_toArray, List.set_cons_zero, List.set_cons_succ]
            refine ht_take 14 (v := ?vt_14) rfl (by kernel_rfl) (fun _ _ _ h => h) (Or.inl ⟨by rfl, ?ht_14⟩) hHeld ?rt_14
            case ht_14 => ((intro U hSw; have y5 : U.cell? ⟨m, 5, none⟩ = some (.slice C.AG C.ps.length C.cG) := hSw.2.2; have z0 : U.cell? ⟨g9, 0, none⟩ = some (.string fx.id) := hSw.1.cell 0; have z1 : U.cell? ⟨g9, 1, none⟩ = some (.string fx.src) := hSw.1.cell 1; have z2 : U.cell? ⟨g9, 2, none⟩ = some (.string fx.dst) := hSw.1.cell 2; have z3 : U.cell? ⟨g9, 3, none⟩ = some (.string fx.msg) := hSw.1.cell 3; go_simp); (try (with_reducible rfl)))
            try simp only [Act.put, List.setIfInBounds_toArray, List.set_cons_zero, List.set_cons_succ]
            refine ht_take 16 (v := ?vt_15) rfl (by kernel_rfl) (fun _ _ _ h => h) (Or.inl ⟨by rfl, ?ht_15⟩) hHeld ?rt_15
            case ht_15 => ((intro U hSw; have y5 : U.cell? ⟨m, 5, none⟩ = some (.slice C.AG C.ps.length C.cG) := hSw.2.2; have z0 : U.cell? ⟨g9, 0, none⟩ = some (.string fx.id) := hSw.1.cell 0; have z1 : U.cell? ⟨g9, 1, none⟩ = some (.string fx.src) := hSw.1.cell 1; have z2 : U.cell? ⟨g9, 2, none⟩ = some (.string fx.dst) := hSw.1.cell 2; have z3 : U.cell? ⟨g9, 3, none⟩ = some (.string fx.msg) := hSw.1.cell 3; go_simp); (try (with_reducible rfl)))
            try simp only [Act.put, List.setIfInBounds_toArray, List.set_cons_zero, List.set_cons_succ]
            refine ht_take 17 (v := ?vt_16) rfl (by kernel_rfl) (fun _ _ _ h => h) (Or.inl ⟨by rfl, ?ht_16⟩) hHeld ?rt_16
            case ht_16 => ((intro U hSw; have y5 : U.cell? ⟨m, 5, none⟩ = some (.slice C.AG C.ps.length C.cG) := hSw.2.2; have z0 : U.cell? ⟨g9, 0, none⟩ = some (.string fx.id) := hSw.1.cell 0; have z1 : U.cell? ⟨g9, 1, none⟩ = some (.string fx.src) := hSw.1.cell 1; have z2 : U.cell? ⟨g9, 2, none⟩ = some (.string fx.dst) := hSw.1.cell 2; have z3 : U.cell? ⟨g9, 3, none⟩ = some (.string fx.msg) := hSw.1.cell 3; go_simp); (try (with_reducible rfl)))
            try simp only [Act.put, List.setIfInBounds_toArray, List.set_cons_zero, List.set_cons_succ]
            refine ht_take 18 (v := ?vt_17) rfl (by kernel_rfl) (fun _ _ _ h => h) (Or.inl ⟨by rfl, ?ht_17⟩) hHeld ?rt_17
            case ht_17 => ((intro U hSw; have y5 : U.cell? ⟨m, 5, none⟩ = some (.slice C.AG C.ps.length C.cG) := hSw.2.2; have z0 : U.cell? ⟨g9, 0, none⟩ = some (.string fx.id) := hSw.1.cell 0; have z1 : U.cell? ⟨g9, 1, none⟩ = some (.string fx.src) := hSw.1.cell 1; have z2 : U.cell? ⟨g9, 2, none⟩ = some (.string fx.dst) := hSw.1.cell 2; have z3 : U.cell? ⟨g9, 3, none⟩ = some (.string fx.msg) := hSw.1.cell 3; go_simp); (try (with_reducible rfl)))
            try simp only [Act.put, List.setIfInBounds_toArray, List.set_cons_zero, List.set_cons_succ]
            refine ht_one 7 rfl (by kernel_rfl) (fun K hK => ?_)
            go_simp
            refine (place_any fx.src (hX2.drew.names HD.out)).mono ?_
            rintro e w' ⟨rfl, rfl⟩
            go_wp2_with fail
            refine hK.out _ _ (hHeld) (fun hHeld => ?_)
            clear hK K
            try simp only [Act.put, List.setIfInBounds_toArray, List.set_cons_zero, List.set_cons_succ]
            refine ht_take 20 (v := ?vt_18) rfl (by kernel_rfl) (fun _ _ _ h => h) (Or.inl ⟨by rfl, ?ht_18⟩) hHeld ?rt_18
            case ht_18 => ((intro U hSw; have y5 : U.cell? ⟨m, 5, none⟩ = some (.slice C.AG C.ps.length C.cG) := hSw.2.2; have z0 : U.cell? ⟨g9, 0, none⟩ = some (.string fx.id) := hSw.1.cell 0; have z1 : U.cell? ⟨g9, 1, none⟩ = some (.string fx.src) := hSw.1.cell 1; have z2 : U.cell? ⟨g9, 2, none⟩ = some (.string fx.dst) := hSw.1.cell 2; have z3 : U.cell? ⟨g9, 3, none⟩ = some (.string fx.msg) := hSw.1.cell 3; go_simp); (try (with_reducible rfl)))
            try simp only [Act.put, List.setIfInBounds_toArray, List.set_cons_zero, List.set_cons_succ]
            refine ht_one 15 rfl (by kernel_rfl) (fun K hK => ?_)
            go_simp
            refine (place_any fx.dst (hX2.drew.names HD.out)).mono ?_
            rintro e w' ⟨rfl, rfl⟩
            go_wp2_with fail
            refine hK.out _ _ (hHeld) (fun hHeld => ?_)
            clear hK K
            try simp only [Act.put, List.setIfInBounds_toArray, List.set_cons_zero, List.set_cons_succ]
            refine ht_one 19 rfl (by kernel_rfl) (fun K hK => ?_)
            go_simp
            refine (fmsg_any fx.msg hm hsz hX2.drew).mono ?_
            rintro e w3 ⟨rfl, ⟨gM', hX3⟩, hc3⟩
            go_wp2_with fail
            refine hK.out _ _ (⟨hHeld.1.ch hc3 (by decide), hHeld.2.1.ch hc3 (by decide), hX3.b.cell 5⟩) (fun hHeld => ?_)
            clear hK K
            try simp only [Act.put, List.setIfInBounds_toArray, List.set_cons_zero, List.set_cons_succ]
            refine ht_done (by kernel_rfl) rfl ?_
            have hB3 := hHeld.2.1
            have hI3 := HBI2.out.drew.ch hc3 (by decide)
            have hC3 := HC2.out.trans (((ChT.refl _ T1).drew).trans (hc3.mono (by decide)))
            have r2 : w3.cell? ⟨gI + 1, 2, none⟩ = some (.int .i64 n.src) := hB3.cell 2
            have f2 : w3.frozen? ⟨gI + 1, 2, none⟩ = false := hB3.frozen 2
            have r3 : w3.cell? ⟨gI + 1, 3, none⟩ = some (.int .i64 n.dst) := hB3.cell 3
            have f3 : w3.frozen? ⟨gI + 1, 3, none⟩ = false := hB3.frozen 3
            have r4 : w3.cell? ⟨gI + 1, 4, none⟩ = some (.int .i64 n.msg) := hB3.cell 4
            have f4 : w3.frozen? ⟨gI + 1, 4, none⟩ = false := hB3.frozen 4
            have hl3 := hB3.lt
            obtain ⟨u2, hu2⟩ : ∃ u, u = Value.int .i64 (placeF C.ps fx.src) := ⟨_, rfl⟩
            obtain ⟨u3, hu3⟩ : ∃ u, u = Value.int .i64 (placeF C.ps fx.dst) := ⟨_, rfl⟩
            obtain ⟨u4, hu4⟩ : ∃ u, u = Value.int .i64 (msgF s' fx.msg).1 := ⟨_, rfl⟩
            have hX4 := ((hX3.box hB3 (by omega) HNE.out 2 u2).box (hB3.set_ 2 u2) (by omega) HNE.out 3 u3).box ((hB3.set_ 2 u2).set_ 3 u3) (by omega) HNE.out 4 u4
            have hB4 := ((hB3.set_ 2 u2).set_ 3 u3).set_ 4 u4
            have hI4 := ((hI3.far (p := ⟨gI + 1, 2, none⟩) (show gI ≠ gI + 1 by omega) u2).far (p := ⟨gI + 1, 3, none⟩) (show gI ≠ gI + 1 by omega) u3).far (p := ⟨gI + 1, 4, none⟩) (show gI ≠ gI + 1 by omega) u4
            have hg1 : W.heap.size ≤ gI + 1 := by have := HGI.out; omega
            have hC4 := ch_new (i := 4) u4 (ch_new (i := 3) u3 (ch_new (i := 2) u2 hC3 hg1) hg1) hg1
            subst hu2
            subst hu3
            subst hu4
            have HX4 := Lib.hid hX4
            have HB4 := Lib.hid hB4
            have HI4 := Lib.hid hI4
            have HC4 := Lib.hid hC4
            clear hX3 hB3 hI3 hC3 hX4 hB4 hI4 hC4 hc3 hHeld hX2 hg1
            go_wp2_with fail
            go_roundw
            case rel => exact ⟨k + 1, ⟨n.kind, n.id, placeF C.ps fx.src, placeF C.ps fx.dst, (msgF s' fx.msg).1, n.reply, n.loop⟩, (msgF s' fx.msg).2, gM', by omega, by go_num, HI, HX4.out, HI4.out, HB4.out, HC4.out⟩
            case measure => simp [intOf]; omega
    · have hi := hinv.out
      rw [List.drop_eq_nil_of_le (by omega)] at hi
      unfold taskG at hi
      have HI := Lib.hid hi.symm
      have HX := Lib.hid hX
      have HBN := Lib.hid hBN
      have i4 : V.cell? ⟨gI, 4, none⟩ = some (.slice A4 x.flows.length c4) := hBI.cell 4
      have r0 : V.cell? ⟨gI + 1, 0, none⟩ = some (.int .i64 n.kind) := hBN.cell 0
      have r1 : V.cell? ⟨gI + 1, 1, none⟩ = some (.string n.id) := hBN.cell 1
      have r2 : V.cell? ⟨gI + 1, 2, none⟩ = some (.int .i64 n.src) := hBN.cell 2
      have r3 : V.cell? ⟨gI + 1, 3, none⟩ = some (.int .i64 n.dst) := hBN.cell 3
      have r4 : V.cell? ⟨gI + 1, 4, none⟩ = some (.int .i64 n.msg) := hBN.cell 4
      have r5 : V.cell? ⟨gI + 1, 5, none⟩ = some (.int .i64 n.reply) := hBN.cell 5
      have r6 : V.cell? ⟨gI + 1, 6, none⟩ = some (.bool n.loop) := hBN.cell 6
      have hml := hX.b.lt
      clear hinv hi hX hBI hBN hC
      by_cases h1 : n.src < 0
      · have hR := HR.out
        rw [HI.out, taskE, if_pos (show false = false ∧ (n.src < 0 ∨ n.dst < 0 ∨ n.src = n.dst) from ⟨rfl, .inl h1⟩)] at hR
        have hsz : (addNode (noneF s') n).2.nodes.length ≤ 1000000 := by rw [hR] at hs2; exact hs2
        have HRn := Lib.hid hR
        have y9 : V.cell? ⟨m, 9, none⟩ = some (.int .i64 s'.e) := HX.out.b.cell 9
        have q9 : V.frozen? ⟨m, 9, none⟩ = false := HX.out.b.frozen 9
        have hneI : gI + 1 ≠ m := by omega
        obtain ⟨V2, hV2⟩ : ∃ V', V' = V.setCell ⟨m, 9, none⟩ (.int .i64 6) := ⟨_, rfl⟩
        have hX3 : FX C wB m (noneF s') gM gN gE V2 := by rw [hV2]; exact HX.out.none_ hm
        have hB3 : Blk V2 (gI + 1) 55 #[.int .i64 n.kind, .string n.id, .int .i64 n.src, .int .i64 n.dst, .int .i64 n.msg, .int .i64 n.reply, .bool n.loop] := by rw [hV2]; exact HBN.out.far hneI _
        have hC3 : ChT [9, 55, 95] W V2 := by rw [hV2]; exact HC.out.trans (HX.out.none_ch _ (by decide))
        have HV2 := Lib.hid hV2.symm
        have HX3 := Lib.hid hX3
        have HB3 := Lib.hid hB3
        have HC3 := Lib.hid hC3
        clear hX3 hB3 hC3 hV2 hR
        go_upto_region 16 with fail
        rw [HV2.out]
        clear y9 q9 HV2 r0 r1 r2 r3 r4 r5 r6
        have r0 : V2.cell? ⟨gI + 1, 0, none⟩ = some (.int .i64 n.kind) := HB3.out.cell 0
        have r1 : V2.cell? ⟨gI + 1, 1, none⟩ = some (.string n.id) := HB3.out.cell 1
        have r2 : V2.cell? ⟨gI + 1, 2, none⟩ = some (.int .i64 n.src) := HB3.out.cell 2
        have r3 : V2.cell? ⟨gI + 1, 3, none⟩ = some (.int .i64 n.dst) := HB3.out.cell 3
        have r4 : V2.cell? ⟨gI + 1, 4, none⟩ = some (.int .i64 n.msg) := HB3.out.cell 4
        have r5 : V2.cell? ⟨gI + 1, 5, none⟩ = some (.int .i64 n.reply) := HB3.out.cell 5
        have r6 : V2.cell? ⟨gI + 1, 6, none⟩ = some (.bool n.loop) := HB3.out.cell 6
        have hml3 := HX3.out.b.lt
        go_wp2_with fail
        refine (fnode_any n hm hsz ⟨_, _, _, HX3.out⟩).mono ?_
        rintro e w3 ⟨rfl, hF, hc⟩
        go_wp2_with fail
        go_ret
        rw [HRn.out]
        exact ⟨rfl, hF, HC3.out.trans (hc.mono (by decide))⟩
      · by_cases h2 : n.dst < 0
        · have hR := HR.out
          rw [HI.out, taskE, if_pos (show false = false ∧ (n.src < 0 ∨ n.dst < 0 ∨ n.src = n.dst) from ⟨rfl, .inr (.inl h2)⟩)] at hR
          have hsz : (addNode (noneF s') n).2.nodes.length ≤ 1000000 := by rw [hR] at hs2; exact hs2
          have HRn := Lib.hid hR
          have y9 : V.cell? ⟨m, 9, none⟩ = some (.int .i64 s'.e) := HX.out.b.cell 9
          have q9 : V.frozen? ⟨m, 9, none⟩ = false := HX.out.b.frozen 9
          have hneI : gI + 1 ≠ m := by omega
          obtain ⟨V2, hV2⟩ : ∃ V', V' = V.setCell ⟨m, 9, none⟩ (.int .i64 6) := ⟨_, rfl⟩
          have hX3 : FX C wB m (noneF s') gM gN gE V2 := by rw [hV2]; exact HX.out.none_ hm
          have hB3 : Blk V2 (gI + 1) 55 #[.int .i64 n.kind, .string n.id, .int .i64 n.src, .int .i64 n.dst, .int .i64 n.msg, .int .i64 n.reply, .bool n.loop] := by rw [hV2]; exact HBN.out.far hneI _
          have hC3 : ChT [9, 55, 95] W V2 := by rw [hV2]; exact HC.out.trans (HX.out.none_ch _ (by decide))
          have HV2 := Lib.hid hV2.symm
          have HX3 := Lib.hid hX3
          have HB3 := Lib.hid hB3
          have HC3 := Lib.hid hC3
          clear hX3 hB3 hC3 hV2 hR
          go_upto_region 16 with fail
          rw [HV2.out]
          clear y9 q9 HV2 r0 r1 r2 r3 r4 r5 r6
          have r0 : V2.cell? ⟨gI + 1, 0, none⟩ = some (.int .i64 n.kind) := HB3.out.cell 0
          have r1 : V2.cell? ⟨gI + 1, 1, none⟩ = some (.string n.id) := HB3.out.cell 1
          have r2 : V2.cell? ⟨gI + 1, 2, none⟩ = some (.int .i64 n.src) := HB3.out.cell 2
          have r3 : V2.cell? ⟨gI + 1, 3, none⟩ = some (.int .i64 n.dst) := HB3.out.cell 3
          have r4 : V2.cell? ⟨gI + 1, 4, none⟩ = some (.int .i64 n.msg) := HB3.out.cell 4
          have r5 : V2.cell? ⟨gI + 1, 5, none⟩ = some (.int .i64 n.reply) := HB3.out.cell 5
          have r6 : V2.cell? ⟨gI + 1, 6, none⟩ = some (.bool n.loop) := HB3.out.cell 6
          have hml3 := HX3.out.b.lt
          go_wp2_with fail
          refine (fnode_any n hm hsz ⟨_, _, _, HX3.out⟩).mono ?_
          rintro e w3 ⟨rfl, hF, hc⟩
          go_wp2_with fail
          go_ret
          rw [HRn.out]
          exact ⟨rfl, hF, HC3.out.trans (hc.mono (by decide))⟩
        · by_cases h3 : n.src = n.dst
          · have h3b : (n.src == n.dst) = true := by simp [h3]
            have H3 := Lib.hid h3
            clear h3
            have hR := HR.out
            rw [HI.out, taskE, if_pos (show false = false ∧ (n.src < 0 ∨ n.dst < 0 ∨ n.src = n.dst) from ⟨rfl, .inr (.inr H3.out)⟩)] at hR
            have hsz : (addNode (noneF s') n).2.nodes.length ≤ 1000000 := by rw [hR] at hs2; exact hs2
            have HRn := Lib.hid hR
            have y9 : V.cell? ⟨m, 9, none⟩ = some (.int .i64 s'.e) := HX.out.b.cell 9
            have q9 : V.frozen? ⟨m, 9, none⟩ = false := HX.out.b.frozen 9
            have hneI : gI + 1 ≠ m := by omega
            obtain ⟨V2, hV2⟩ : ∃ V', V' = V.setCell ⟨m, 9, none⟩ (.int .i64 6) := ⟨_, rfl⟩
            have hX3 : FX C wB m (noneF s') gM gN gE V2 := by rw [hV2]; exact HX.out.none_ hm
            have hB3 : Blk V2 (gI + 1) 55 #[.int .i64 n.kind, .string n.id, .int .i64 n.src, .int .i64 n.dst, .int .i64 n.msg, .int .i64 n.reply, .bool n.loop] := by rw [hV2]; exact HBN.out.far hneI _
            have hC3 : ChT [9, 55, 95] W V2 := by rw [hV2]; exact HC.out.trans (HX.out.none_ch _ (by decide))
            have HV2 := Lib.hid hV2.symm
            have HX3 := Lib.hid hX3
            have HB3 := Lib.hid hB3
            have HC3 := Lib.hid hC3
            clear hX3 hB3 hC3 hV2 hR
            go_upto_region 16 with fail
            rw [HV2.out]
            clear y9 q9 HV2 r0 r1 r2 r3 r4 r5 r6
            have r0 : V2.cell? ⟨gI + 1, 0, none⟩ = some (.int .i64 n.kind) := HB3.out.cell 0
            have r1 : V2.cell? ⟨gI + 1, 1, none⟩ = some (.string n.id) := HB3.out.cell 1
            have r2 : V2.cell? ⟨gI + 1, 2, none⟩ = some (.int .i64 n.src) := HB3.out.cell 2
            have r3 : V2.cell? ⟨gI + 1, 3, none⟩ = some (.int .i64 n.dst) := HB3.out.cell 3
            have r4 : V2.cell? ⟨gI + 1, 4, none⟩ = some (.int .i64 n.msg) := HB3.out.cell 4
            have r5 : V2.cell? ⟨gI + 1, 5, none⟩ = some (.int .i64 n.reply) := HB3.out.cell 5
            have r6 : V2.cell? ⟨gI + 1, 6, none⟩ = some (.bool n.loop) := HB3.out.cell 6
            have hml3 := HX3.out.b.lt
            go_wp2_with fail
            refine (fnode_any n hm hsz ⟨_, _, _, HX3.out⟩).mono ?_
            rintro e w3 ⟨rfl, hF, hc⟩
            go_wp2_with fail
            go_ret
            rw [HRn.out]
            exact ⟨rfl, hF, HC3.out.trans (hc.mono (by decide))⟩
          · have hR := HR.out
            rw [HI.out, taskE, if_neg (by intro h; rcases h.2 with h | h | h <;> contradiction)] at hR
            have hsz : (addNode s' n).2.nodes.length ≤ 1000000 := by rw [hR] at hs2; exact hs2
            have HRn := Lib.hid hR
            clear hR
            go_wp2_with fail
            refine (fnode_any n hm hsz ⟨_, _, _, HX.out⟩).mono ?_
            rintro e w3 ⟨rfl, hF, hc⟩
            go_wp2_with fail
            go_ret
            rw [HRn.out]
            exact ⟨rfl, hF, HC.out.trans (hc.mono (by decide))⟩
end Go.Proofs.Yteoioboiniealaa
