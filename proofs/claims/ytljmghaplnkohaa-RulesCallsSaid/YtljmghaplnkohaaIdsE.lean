/- What ids.items checks: plain functions; the functions within it; its contract, by what it does to items within. -/
import Derived.Test.YtljmghaplnkohaaIdsD
import Derived.Test.YtljmghaplnkohaaFindB
import Derived.Test.YtljmghaplnkohaaIdsAB
import Derived.Test.YtljmghaplnkohaaReg
namespace Go.Proofs.Ytljmghaplnkohaa
open Go.RowKit
attribute [local go_sem ↓] Go.wp_at_zero Go.wp_at_succ

def partAt (c : ChorD) (p : ByteArray) : Int := findFrom (fun x : PartD => eqS x.id p) c.parts 0
def flowAt (c : ChorD) (p : ByteArray) : Int := findFrom (fun x : FlowD => eqS x.id p) c.flows 0
def chorAt (d : DocD) (p : ByteArray) : Int := findFrom (fun x : ChorD => eqS x.id p) d.chors 0
def msgAt (d : DocD) (p : ByteArray) : Int := findFrom (fun x : PartD => eqS x.id p) d.msgs 0
def itemAt (l : List ItemD) (p : ByteArray) : Int := findFrom (fun x : ItemD => eqS x.id p) l 0
def noChor : ChorD := ⟨⟨#[]⟩, [], [], [], []⟩
def okTask (c : ChorD) (first : ByteArray) (parts flows : List ByteArray) : Bool :=
  decide (0 ≤ partAt c first) && (!(parts.any fun p => decide (partAt c p < 0))) && (!(flows.any fun f => decide (flowAt c f < 0)))
def badMap (e c : ChorD) (m : MapD) : Bool := decide (partAt e m.inner < 0) || decide (partAt c m.outer < 0)
def okCall (d : DocD) (c : ChorD) (called : ByteArray) (maps : List MapD) : Bool :=
  decide (0 ≤ chorAt d called) && (!(maps.any (badMap (d.chors.getD (chorAt d called).toNat noChor) c)))
def badSeq (l : List ItemD) (q : SeqD) : Bool := decide (itemAt l q.src < 0) || decide (itemAt l q.dst < 0)
def okSeqs (l : List ItemD) (s : List SeqD) : Bool := !(s.any (badSeq l))
mutual
/-- Is all there that an item tells of? -/
def okI (d : DocD) (c : ChorD) : ItemD → Bool
  | ⟨kind, _, first, parts, flows, _, called, maps, items, seqs⟩ =>
    if kind = 3 then okTask c first parts flows else if kind = 8 then okCall d c called maps else if kind = 7 then okL d c items && okSeqs items seqs else true
def okL (d : DocD) (c : ChorD) : List ItemD → Bool
  | [] => true
  | x :: l => okI d c x && okL d c l
end
theorem okI_eq (d : DocD) (c : ChorD) (x : ItemD) : okI d c x = if x.kind = 3 then okTask c x.first x.parts x.flows else if x.kind = 8 then okCall d c x.called x.maps else if x.kind = 7 then okL d c x.items && okSeqs x.items x.seqs else true := by
  obtain ⟨kind, id, first, parts, flows, loop, called, maps, items, seqs⟩ := x
  rw [okI]
theorem items1_any {w : World} {c : ChorD} {AP : Option Addr} {cP : Nat} {AF : Option Addr} {cF : Nat} {AI : Option Addr} {cI : Nat} {AS : Option Addr} {cS : Nat} (hc : Comp w c.parts c.flows c.items c.seqs AP cP AF cF AI cI AS cS) {g : Nat} (hb : Blk w g 54 #[.string c.id, .slice AP c.parts.length cP, .slice AF c.flows.length cF, .slice AI c.items.length cI, .slice AS c.seqs.length cS]) (p : ByteArray) :
    Calls Try.prog 61 #[.string p, .pointer (some ⟨g, 0, none⟩)] w fun e w' => e = .returned (.bool (decide (partAt c p < 0))) ∧ Below w.heap.size w w' := by
  have hcall := idsPart_any (w := w) (vId := .string c.id) (vF := .slice AF c.flows.length cF) (vI := .slice AI c.items.length cI) (vS := .slice AS c.seqs.length cS) p hc.parts
  have x0 : w.cell? ⟨g, 0, none⟩ = some (.string c.id) := hb.cell 0
  have x1 : w.cell? ⟨g, 1, none⟩ = some (.slice AP c.parts.length cP) := hb.cell 1
  have x2 : w.cell? ⟨g, 2, none⟩ = some (.slice AF c.flows.length cF) := hb.cell 2
  have x3 : w.cell? ⟨g, 3, none⟩ = some (.slice AI c.items.length cI) := hb.cell 3
  have x4 : w.cell? ⟨g, 4, none⟩ = some (.slice AS c.seqs.length cS) := hb.cell 4
  have HCALL := Lib.hid hcall
  unfold partAt
  obtain ⟨q, hq⟩ : ∃ q, q = findFrom (fun x : PartD => eqS x.id p) c.parts 0 := ⟨_, rfl⟩
  rw [← hq] at HCALL ⊢
  clear hcall hc hb hq
  go_enter Try.func61, Try.ntmps61
  go_wp2_with fail
  refine HCALL.out.mono ?_
  rintro e w1 ⟨rfl, hb1⟩
  go_wp2_with fail
  go_ret
  exact ⟨rfl, hb1⟩
theorem items2_any {w : World} {c : ChorD} {AP : Option Addr} {cP : Nat} {AF : Option Addr} {cF : Nat} {AI : Option Addr} {cI : Nat} {AS : Option Addr} {cS : Nat} (hc : Comp w c.parts c.flows c.items c.seqs AP cP AF cF AI cI AS cS) {g : Nat} (hb : Blk w g 54 #[.string c.id, .slice AP c.parts.length cP, .slice AF c.flows.length cF, .slice AI c.items.length cI, .slice AS c.seqs.length cS]) (p : ByteArray) :
    Calls Try.prog 62 #[.string p, .pointer (some ⟨g, 0, none⟩)] w fun e w' => e = .returned (.bool (decide (flowAt c p < 0))) ∧ Below w.heap.size w w' := by
  have hcall := idsFlow_any (w := w) (vId := .string c.id) (vP := .slice AP c.parts.length cP) (vI := .slice AI c.items.length cI) (vS := .slice AS c.seqs.length cS) p hc.flows
  have x0 : w.cell? ⟨g, 0, none⟩ = some (.string c.id) := hb.cell 0
  have x1 : w.cell? ⟨g, 1, none⟩ = some (.slice AP c.parts.length cP) := hb.cell 1
  have x2 : w.cell? ⟨g, 2, none⟩ = some (.slice AF c.flows.length cF) := hb.cell 2
  have x3 : w.cell? ⟨g, 3, none⟩ = some (.slice AI c.items.length cI) := hb.cell 3
  have x4 : w.cell? ⟨g, 4, none⟩ = some (.slice AS c.seqs.length cS) := hb.cell 4
  have HCALL := Lib.hid hcall
  unfold flowAt
  obtain ⟨q, hq⟩ : ∃ q, q = findFrom (fun x : FlowD => eqS x.id p) c.flows 0 := ⟨_, rfl⟩
  rw [← hq] at HCALL ⊢
  clear hcall hc hb hq
  go_enter Try.func62, Try.ntmps62
  go_wp2_with fail
  refine HCALL.out.mono ?_
  rintro e w1 ⟨rfl, hb1⟩
  go_wp2_with fail
  go_ret
  exact ⟨rfl, hb1⟩

set_option maxRecDepth 100000 in
set_option maxHeartbeats 2000000 in
theorem items3_any {w : World} {d : DocD} {c : ChorD} {A1 B1 : Option Addr} {c1 k1 : Nat} {AP : Option Addr} {cP : Nat} {AF : Option Addr} {cF : Nat} {AI : Option Addr} {cI : Nat} {AS : Option Addr} {cS : Nat} (hc : Comp w c.parts c.flows c.items c.seqs AP cP AF cF AI cI AS cS) (hcs : Rd w (chorsD d.chors) (.slice B1 d.chors.length k1)) {gd gk gc k : Nat} (hbd : Blk w gd 42 #[.slice A1 d.msgs.length c1, .slice B1 d.chors.length k1]) (hbk : w.cell? ⟨gk, 0, none⟩ = some (.int .i64 k)) (hgk : gk < w.heap.size) (hbc : Blk w gc 54 #[.string c.id, .slice AP c.parts.length cP, .slice AF c.flows.length cF, .slice AI c.items.length cI, .slice AS c.seqs.length cS]) (hk : k < d.chors.length) (x : MapD) :
    Calls Try.prog 64 #[.agg #[.string x.inner, .string x.outer], .pointer (some ⟨gd, 0, none⟩), .pointer (some ⟨gk, 0, none⟩), .pointer (some ⟨gc, 0, none⟩)] w fun e w' => e = .returned (.bool (badMap (d.chors.getD k noChor) c x)) ∧ Below w.heap.size w w' := by
  obtain ⟨Bx, kx, hvx, _, _, hat⟩ := rd_at chorC_len hcs
  injection hvx with e1 _ e3
  subst e1
  subst e3
  obtain ⟨b, vs, rfl, hb, _, hvs, hcell⟩ := hat k hk
  obtain ⟨f, hf⟩ : ∃ f, f = d.chors[k] := ⟨_, rfl⟩
  have hgd : d.chors.getD k noChor = f := by rw [hf, List.getD_eq_getElem?_getD, List.getElem?_eq_getElem hk, Option.getD_some]
  rw [← hf] at hvs
  rw [hgd]
  obtain ⟨vP, vF, vI, vS, rfl, hV⟩ := rd_chorC.1 hvs
  obtain ⟨XP, yP, rfl⟩ := rd_form hV.1
  obtain ⟨XF, yF, rfl⟩ := rd_form hV.2.1
  obtain ⟨XI, yI, rfl⟩ := rd_form hV.2.2.1
  obtain ⟨XS, yS, rfl⟩ := rd_form hV.2.2.2
  have e0 : w.cell? ⟨b, k * 5, none⟩ = some (.string f.id) := hcell 0 (by omega)
  have e1 : w.cell? ⟨b, k * 5 + 1, none⟩ = some (.slice XP f.parts.length yP) := hcell 1 (by omega)
  have e2 : w.cell? ⟨b, k * 5 + 2, none⟩ = some (.slice XF f.flows.length yF) := hcell 2 (by omega)
  have e3 : w.cell? ⟨b, k * 5 + 3, none⟩ = some (.slice XI f.items.length yI) := hcell 3 (by omega)
  have e4 : w.cell? ⟨b, k * 5 + 4, none⟩ = some (.slice XS f.seqs.length yS) := hcell 4 (by omega)
  obtain ⟨W, hW⟩ : ∃ W, W = w.alloc (.cells #[.string x.inner, .string x.outer] 71) := ⟨_, rfl⟩
  have bW : Below w.heap.size w W := by rw [hW]; exact (Below.refl _ _).alloc (Nat.le_refl _) _
  have hbm : Blk W w.heap.size 71 #[.string x.inner, .string x.outer] := by rw [hW]; exact Blk.new _ _ _
  have hfp : Rd W (partsD f.parts) (.slice XP f.parts.length yP) := Rd.below bW _ _ hV.1
  have hcp : Rd W (partsD c.parts) (.slice AP c.parts.length cP) := Rd.below bW _ _ hc.parts
  have hkI : (k : Int) < (d.chors.length : Int) := by omega
  have HBM := Lib.hid hbm
  have HFP := Lib.hid hfp
  have HCP := Lib.hid hcp
  have HBW := Lib.hid bW
  have HW := Lib.hid hW.symm
  obtain ⟨gm, hgm⟩ : ∃ g, g = w.heap.size := ⟨_, rfl⟩
  rw [← hgm] at HBM
  have HGM := Lib.hid hgm.symm
  have dd1 : W.cell? ⟨gd, 1, none⟩ = some (.slice (some ⟨b, 0, none⟩) d.chors.length k1) := (hbd.below bW hbd.lt).cell 1
  have dk : W.cell? ⟨gk, 0, none⟩ = some (.int .i64 k) := (bW.cell (p := ⟨gk, 0, none⟩) hgk).trans hbk
  have hgkW : gk < W.heap.size := by have := bW.size; omega
  have hgdW : gd < W.heap.size := (hbd.below bW hbd.lt).lt
  have hbW : b < W.heap.size := by have := bW.size; omega
  have E0 := (bW.cell (p := ⟨b, k * 5, none⟩) hb).trans e0
  have E1 := (bW.cell (p := ⟨b, k * 5 + 1, none⟩) hb).trans e1
  have E2 := (bW.cell (p := ⟨b, k * 5 + 2, none⟩) hb).trans e2
  have E3 := (bW.cell (p := ⟨b, k * 5 + 3, none⟩) hb).trans e3
  have E4 := (bW.cell (p := ⟨b, k * 5 + 4, none⟩) hb).trans e4
  have hbcW := hbc.below bW hbc.lt
  have HBC := Lib.hid hbcW
  unfold badMap
  have HQ1 := Lib.hid (show partAt f x.inner = findFrom (fun y : PartD => eqS y.id x.inner) f.parts 0 from rfl)
  have HQ2 := Lib.hid (show partAt c x.outer = findFrom (fun y : PartD => eqS y.id x.outer) c.parts 0 from rfl)
  obtain ⟨q1, hq1⟩ : ∃ q, q = partAt f x.inner := ⟨_, rfl⟩
  obtain ⟨q2, hq2⟩ : ∃ q, q = partAt c x.outer := ⟨_, rfl⟩
  rw [← hq1, ← hq2]
  rw [← hq1] at HQ1
  rw [← hq2] at HQ2
  clear hcs hat hcell hvs hV hbm hfp hcp hW hgm bW hbd hbk hbc hc hbcW hf hgd e0 e1 e2 e3 e4 hq1 hq2
  go_enter Try.func64, Try.ntmps64
  go_upto_region 1 with fail
  rw [HW.out, HGM.out]
  clear HW
  by_cases hq : q1 < 0
  · have hqb : decide (q1 < 0) = true := by simp [hq]
    have HY_a := Lib.hid (fun (U : World) (hSw : (fun U => Below W.heap.size W U) U) => And.intro (show U.cell? ⟨gd, 1, none⟩ = some (.slice (some ⟨b, 0, none⟩) d.chors.length k1) from (hSw.cell (p := ⟨gd, 1, none⟩) hgdW).trans dd1) (And.intro (show U.cell? ⟨gk, 0, none⟩ = some (.int .i64 k) from (hSw.cell (p := ⟨gk, 0, none⟩) hgkW).trans dk) (And.intro ((hSw.cell (p := ⟨b, k * 5, none⟩) hbW).trans E0) (And.intro ((hSw.cell (p := ⟨b, k * 5 + 1, none⟩) hbW).trans E1) (And.intro ((hSw.cell (p := ⟨b, k * 5 + 2, none⟩) hbW).trans E2) (And.intro ((hSw.cell (p := ⟨b, k * 5 + 3, none⟩) hbW).trans E3) (And.intro ((hSw.cell (p := ⟨b, k * 5 + 4, none⟩) hbW).trans E4) (And.intro (show U.cell? ⟨gm, 0, none⟩ = some (.string x.inner) from (HBM.out.below hSw HBM.out.lt).cell 0) (And.intro (show U.cell? ⟨gm, 1, none⟩ = some (.string x.outer) from (HBM.out.below hSw HBM.out.lt).cell 1) (And.intro (show U.cell? ⟨gc, 0, none⟩ = some (.string c.id) from (HBC.out.below hSw HBC.out.lt).cell 0) (And.intro (show U.cell? ⟨gc, 1, none⟩ = some (.slice AP c.parts.length cP) from (HBC.out.below hSw HBC.out.lt).cell 1) (And.intro (show U.cell? ⟨gc, 2, none⟩ = some (.slice AF c.flows.length cF) from (HBC.out.below hSw HBC.out.lt).cell 2) (And.intro (show U.cell? ⟨gc, 3, none⟩ = some (.slice AI c.items.length cI) from (HBC.out.below hSw HBC.out.lt).cell 3) ((show U.cell? ⟨gc, 4, none⟩ = some (.slice AS c.seqs.length cS) from (HBC.out.below hSw HBC.out.lt).cell 4)))))))))))))))
    refine wp_region_HT 16 (fun U => Below W.heap.size W U) (by kernel_rfl) (by decide) ((Below.refl _ _).drew) (fun hHeld => ?_)
    refine ht_take 0 (v := ?va_1) rfl (by kernel_rfl) (fun _ _ _ h => h) (Or.inl ⟨by rfl, ?ha_1⟩) hHeld ?ra_1
    case ha_1 => ((intro U hSw; obtain ⟨a1, a2, z0, z1, z2, z3, z4, m0, m1, c0_, c1_, c2_, c3_, c4_⟩ := HY_a.out U hSw; go_simp); (try (with_reducible rfl)))
    try simp only [Act.put, List.setIfInBounds_toArray, List.set_cons_zero, List.set_cons_succ]
    refine ht_take 1 (v := ?va_2) rfl (by kernel_rfl) (fun _ _ _ h => h) (Or.inl ⟨by rfl, ?ha_2⟩) hHeld ?ra_2
    case ha_2 => ((intro U hSw; obtain ⟨a1, a2, z0, z1, z2, z3, z4, m0, m1, c0_, c1_, c2_, c3_, c4_⟩ := HY_a.out U hSw; go_simp); (try (with_reducible rfl)))
    try simp only [Act.put, List.setIfInBounds_toArray, List.set_cons_zero, List.set_cons_succ]
    refine ht_take 2 (v := ?va_3) rfl (by kernel_rfl) (fun _ _ _ h => h) (Or.inl ⟨by rfl, ?ha_3⟩) hHeld ?ra_3
    case ha_3 => ((intro U hSw; obtain ⟨a1, a2, z0, z1, z2, z3, z4, m0, m1, c0_, c1_, c2_, c3_, c4_⟩ := HY_a.out U hSw; go_simp); (try (with_reducible rfl)))
    try simp only [Act.put, List.setIfInBounds_toArray, List.set_cons_zero, List.set_cons_succ]
    refine ht_take 3 (v := ?va_4) rfl (by kernel_rfl) (fun _ _ _ h => h) (Or.inl ⟨by rfl, ?ha_4⟩) hHeld ?ra_4
    case ha_4 => ((intro U hSw; obtain ⟨a1, a2, z0, z1, z2, z3, z4, m0, m1, c0_, c1_, c2_, c3_, c4_⟩ := HY_a.out U hSw; go_simp); (try (with_reducible rfl)))
    try simp only [Act.put, List.setIfInBounds_toArray, List.set_cons_zero, List.set_cons_succ]
    refine ht_take 4 (v := ?va_5) rfl (by kernel_rfl) (fun _ _ _ h => h) (Or.inl ⟨by rfl, ?ha_5⟩) hHeld ?ra_5
    case ha_5 => ((intro U hSw; obtain ⟨a1, a2, z0, z1, z2, z3, z4, m0, m1, c0_, c1_, c2_, c3_, c4_⟩ := HY_a.out U hSw; go_simp); (try (with_reducible rfl)))
    try simp only [Act.put, List.setIfInBounds_toArray, List.set_cons_zero, List.set_cons_succ]
    refine ht_take 5 (v := ?va_6) rfl (by kernel_rfl) (fun _ _ _ h => h) (Or.inl ⟨by rfl, ?ha_6⟩) hHeld ?ra_6
    case ha_6 => ((intro U hSw; obtain ⟨a1, a2, z0, z1, z2, z3, z4, m0, m1, c0_, c1_, c2_, c3_, c4_⟩ := HY_a.out U hSw; go_simp); (try (with_reducible rfl)))
    try simp only [Act.put, List.setIfInBounds_toArray, List.set_cons_zero, List.set_cons_succ]
    refine ht_take 6 (v := ?va_7) rfl (by kernel_rfl) (fun _ _ _ h => h) (Or.inl ⟨by rfl, ?ha_7⟩) hHeld ?ra_7
    case ha_7 => ((intro U hSw; obtain ⟨a1, a2, z0, z1, z2, z3, z4, m0, m1, c0_, c1_, c2_, c3_, c4_⟩ := HY_a.out U hSw; go_simp); (try (with_reducible rfl)))
    try simp only [Act.put, List.setIfInBounds_toArray, List.set_cons_zero, List.set_cons_succ]
    refine ht_one 7 rfl (by kernel_rfl) (fun K hK => ?_)
    go_simp
    refine (idsPart_any x.inner (Rd.below hHeld _ _ HFP.out)).mono ?_
    rintro e w1 ⟨rfl, hb1⟩
    rw [← HQ1.out]
    go_wp2_with fail
    refine hK.out _ _ (hHeld.trans (hb1.mono hHeld.size)) (fun hHeld => ?_)
    clear hK K
    try simp only [Act.put, List.setIfInBounds_toArray, List.set_cons_zero, List.set_cons_succ]
    refine ht_take 8 (v := ?va_8) rfl (by kernel_rfl) (fun _ _ _ h => h) (Or.inl ⟨by rfl, ?ha_8⟩) hHeld ?ra_8
    case ha_8 => ((intro U hSw; obtain ⟨a1, a2, z0, z1, z2, z3, z4, m0, m1, c0_, c1_, c2_, c3_, c4_⟩ := HY_a.out U hSw; go_simp); (try (with_reducible rfl)))
    try simp only [Act.put, List.setIfInBounds_toArray, List.set_cons_zero, List.set_cons_succ]
    refine ht_take 9 (v := ?va_9) rfl (by kernel_rfl) (fun _ _ _ h => h) (Or.inl ⟨by rfl, ?ha_9⟩) hHeld ?ra_9
    case ha_9 => ((intro U hSw; obtain ⟨a1, a2, z0, z1, z2, z3, z4, m0, m1, c0_, c1_, c2_, c3_, c4_⟩ := HY_a.out U hSw; go_simp); (try (with_reducible rfl)))
    try simp only [Act.put, List.setIfInBounds_toArray, List.set_cons_zero, List.set_cons_succ]
    refine ht_take 10 (v := undef) rfl (by kernel_rfl) (fun _ _ _ h => h) (Or.inr ⟨by rfl, rfl⟩) hHeld ?ra_10
    try simp only [Act.put, List.setIfInBounds_toArray, List.set_cons_zero, List.set_cons_succ]
    refine ht_take 11 (v := undef) rfl (by kernel_rfl) (fun _ _ _ h => h) (Or.inr ⟨by rfl, rfl⟩) hHeld ?ra_11
    try simp only [Act.put, List.setIfInBounds_toArray, List.set_cons_zero, List.set_cons_succ]
    refine ht_take 12 (v := undef) rfl (by kernel_rfl) (fun _ _ _ h => h) (Or.inr ⟨by rfl, rfl⟩) hHeld ?ra_12
    try simp only [Act.put, List.setIfInBounds_toArray, List.set_cons_zero, List.set_cons_succ]
    refine ht_take 13 (v := undef) rfl (by kernel_rfl) (fun _ _ _ h => h) (Or.inr ⟨by rfl, rfl⟩) hHeld ?ra_13
    try simp only [Act.put, List.setIfInBounds_toArray, List.set_cons_zero, List.set_cons_succ]
    refine ht_take 14 (v := undef) rfl (by kernel_rfl) (fun _ _ _ h => h) (Or.inr ⟨by rfl, rfl⟩) hHeld ?ra_14
    try simp only [Act.put, List.setIfInBounds_toArray, List.set_cons_zero, List.set_cons_succ]
    refine ht_take 15 (v := ?va_15) rfl (by kernel_rfl) (fun _ _ _ h => h) (Or.inl ⟨by rfl, ?ha_15⟩) hHeld ?ra_15
    case ha_15 => ((intro U hSw; obtain ⟨a1, a2, z0, z1, z2, z3, z4, m0, m1, c0_, c1_, c2_, c3_, c4_⟩ := HY_a.out U hSw; go_simp); (try (with_reducible rfl)))
    try simp only [Act.put, List.setIfInBounds_toArray, List.set_cons_zero, List.set_cons_succ]
    refine ht_done (by kernel_rfl) rfl ?_
    have HF := Lib.hid (HBW.out.trans (hHeld.mono HBW.out.size))
    clear hHeld
    go_wp2_with fail
    go_ret
    exact ⟨ret_bool (by simp <;> omega), HF.out⟩
  · have hqb : decide (q1 < 0) = false := by simp [hq]
    have HY_b := Lib.hid (fun (U : World) (hSw : (fun U => Below W.heap.size W U) U) => And.intro (show U.cell? ⟨gd, 1, none⟩ = some (.slice (some ⟨b, 0, none⟩) d.chors.length k1) from (hSw.cell (p := ⟨gd, 1, none⟩) hgdW).trans dd1) (And.intro (show U.cell? ⟨gk, 0, none⟩ = some (.int .i64 k) from (hSw.cell (p := ⟨gk, 0, none⟩) hgkW).trans dk) (And.intro ((hSw.cell (p := ⟨b, k * 5, none⟩) hbW).trans E0) (And.intro ((hSw.cell (p := ⟨b, k * 5 + 1, none⟩) hbW).trans E1) (And.intro ((hSw.cell (p := ⟨b, k * 5 + 2, none⟩) hbW).trans E2) (And.intro ((hSw.cell (p := ⟨b, k * 5 + 3, none⟩) hbW).trans E3) (And.intro ((hSw.cell (p := ⟨b, k * 5 + 4, none⟩) hbW).trans E4) (And.intro (show U.cell? ⟨gm, 0, none⟩ = some (.string x.inner) from (HBM.out.below hSw HBM.out.lt).cell 0) (And.intro (show U.cell? ⟨gm, 1, none⟩ = some (.string x.outer) from (HBM.out.below hSw HBM.out.lt).cell 1) (And.intro (show U.cell? ⟨gc, 0, none⟩ = some (.string c.id) from (HBC.out.below hSw HBC.out.lt).cell 0) (And.intro (show U.cell? ⟨gc, 1, none⟩ = some (.slice AP c.parts.length cP) from (HBC.out.below hSw HBC.out.lt).cell 1) (And.intro (show U.cell? ⟨gc, 2, none⟩ = some (.slice AF c.flows.length cF) from (HBC.out.below hSw HBC.out.lt).cell 2) (And.intro (show U.cell? ⟨gc, 3, none⟩ = some (.slice AI c.items.length cI) from (HBC.out.below hSw HBC.out.lt).cell 3) ((show U.cell? ⟨gc, 4, none⟩ = some (.slice AS c.seqs.length cS) from (HBC.out.below hSw HBC.out.lt).cell 4)))))))))))))))
    refine wp_region_HT 16 (fun U => Below W.heap.size W U) (by kernel_rfl) (by decide) ((Below.refl _ _).drew) (fun hHeld => ?_)
    refine ht_take 0 (v := ?vb_1) rfl (by kernel_rfl) (fun _ _ _ h => h) (Or.inl ⟨by rfl, ?hb_1⟩) hHeld ?rb_1
    case hb_1 => ((intro U hSw; obtain ⟨a1, a2, z0, z1, z2, z3, z4, m0, m1, c0_, c1_, c2_, c3_, c4_⟩ := HY_b.out U hSw; go_simp); (try (with_reducible rfl)))
    try simp only [Act.put, List.setIfInBounds_toArray, List.set_cons_zero, List.set_cons_succ]
    refine ht_take 1 (v := ?vb_2) rfl (by kernel_rfl) (fun _ _ _ h => h) (Or.inl ⟨by rfl, ?hb_2⟩) hHeld ?rb_2
    case hb_2 => ((intro U hSw; obtain ⟨a1, a2, z0, z1, z2, z3, z4, m0, m1, c0_, c1_, c2_, c3_, c4_⟩ := HY_b.out U hSw; go_simp); (try (with_reducible rfl)))
    try simp only [Act.put, List.setIfInBounds_toArray, List.set_cons_zero, List.set_cons_succ]
    refine ht_take 2 (v := ?vb_3) rfl (by kernel_rfl) (fun _ _ _ h => h) (Or.inl ⟨by rfl, ?hb_3⟩) hHeld ?rb_3
    case hb_3 => ((intro U hSw; obtain ⟨a1, a2, z0, z1, z2, z3, z4, m0, m1, c0_, c1_, c2_, c3_, c4_⟩ := HY_b.out U hSw; go_simp); (try (with_reducible rfl)))
    try simp only [Act.put, List.setIfInBounds_toArray, List.set_cons_zero, List.set_cons_succ]
    refine ht_take 3 (v := ?vb_4) rfl (by kernel_rfl) (fun _ _ _ h => h) (Or.inl ⟨by rfl, ?hb_4⟩) hHeld ?rb_4
    case hb_4 => ((intro U hSw; obtain ⟨a1, a2, z0, z1, z2, z3, z4, m0, m1, c0_, c1_, c2_, c3_, c4_⟩ := HY_b.out U hSw; go_simp); (try (with_reducible rfl)))
    try simp only [Act.put, List.setIfInBounds_toArray, List.set_cons_zero, List.set_cons_succ]
    refine ht_take 4 (v := ?vb_5) rfl (by kernel_rfl) (fun _ _ _ h => h) (Or.inl ⟨by rfl, ?hb_5⟩) hHeld ?rb_5
    case hb_5 => ((intro U hSw; obtain ⟨a1, a2, z0, z1, z2, z3, z4, m0, m1, c0_, c1_, c2_, c3_, c4_⟩ := HY_b.out U hSw; go_simp); (try (with_reducible rfl)))
    try simp only [Act.put, List.setIfInBounds_toArray, List.set_cons_zero, List.set_cons_succ]
    refine ht_take 5 (v := ?vb_6) rfl (by kernel_rfl) (fun _ _ _ h => h) (Or.inl ⟨by rfl, ?hb_6⟩) hHeld ?rb_6
    case hb_6 => ((intro U hSw; obtain ⟨a1, a2, z0, z1, z2, z3, z4, m0, m1, c0_, c1_, c2_, c3_, c4_⟩ := HY_b.out U hSw; go_simp); (try (with_reducible rfl)))
    try simp only [Act.put, List.setIfInBounds_toArray, List.set_cons_zero, List.set_cons_succ]
    refine ht_take 6 (v := ?vb_7) rfl (by kernel_rfl) (fun _ _ _ h => h) (Or.inl ⟨by rfl, ?hb_7⟩) hHeld ?rb_7
    case hb_7 => ((intro U hSw; obtain ⟨a1, a2, z0, z1, z2, z3, z4, m0, m1, c0_, c1_, c2_, c3_, c4_⟩ := HY_b.out U hSw; go_simp); (try (with_reducible rfl)))
    try simp only [Act.put, List.setIfInBounds_toArray, List.set_cons_zero, List.set_cons_succ]
    refine ht_one 7 rfl (by kernel_rfl) (fun K hK => ?_)
    go_simp
    refine (idsPart_any x.inner (Rd.below hHeld _ _ HFP.out)).mono ?_
    rintro e w1 ⟨rfl, hb1⟩
    rw [← HQ1.out]
    go_wp2_with fail
    refine hK.out _ _ (hHeld.trans (hb1.mono hHeld.size)) (fun hHeld => ?_)
    clear hK K
    try simp only [Act.put, List.setIfInBounds_toArray, List.set_cons_zero, List.set_cons_succ]
    refine ht_take 8 (v := ?vb_8) rfl (by kernel_rfl) (fun _ _ _ h => h) (Or.inl ⟨by rfl, ?hb_8⟩) hHeld ?rb_8
    case hb_8 => ((intro U hSw; obtain ⟨a1, a2, z0, z1, z2, z3, z4, m0, m1, c0_, c1_, c2_, c3_, c4_⟩ := HY_b.out U hSw; go_simp); (try (with_reducible rfl)))
    try simp only [Act.put, List.setIfInBounds_toArray, List.set_cons_zero, List.set_cons_succ]
    refine ht_take 9 (v := ?vb_9) rfl (by kernel_rfl) (fun _ _ _ h => h) (Or.inl ⟨by rfl, ?hb_9⟩) hHeld ?rb_9
    case hb_9 => ((intro U hSw; obtain ⟨a1, a2, z0, z1, z2, z3, z4, m0, m1, c0_, c1_, c2_, c3_, c4_⟩ := HY_b.out U hSw; go_simp); (try (with_reducible rfl)))
    try simp only [Act.put, List.setIfInBounds_toArray, List.set_cons_zero, List.set_cons_succ]
    refine ht_take 10 (v := ?vb_10) rfl (by kernel_rfl) (fun _ _ _ h => h) (Or.inl ⟨by rfl, ?hb_10⟩) hHeld ?rb_10
    case hb_10 => ((intro U hSw; obtain ⟨a1, a2, z0, z1, z2, z3, z4, m0, m1, c0_, c1_, c2_, c3_, c4_⟩ := HY_b.out U hSw; go_simp); (try (with_reducible rfl)))
    try simp only [Act.put, List.setIfInBounds_toArray, List.set_cons_zero, List.set_cons_succ]
    refine ht_take 11 (v := ?vb_11) rfl (by kernel_rfl) (fun _ _ _ h => h) (Or.inl ⟨by rfl, ?hb_11⟩) hHeld ?rb_11
    case hb_11 => ((intro U hSw; obtain ⟨a1, a2, z0, z1, z2, z3, z4, m0, m1, c0_, c1_, c2_, c3_, c4_⟩ := HY_b.out U hSw; go_simp); (try (with_reducible rfl)))
    try simp only [Act.put, List.setIfInBounds_toArray, List.set_cons_zero, List.set_cons_succ]
    refine ht_take 12 (v := ?vb_12) rfl (by kernel_rfl) (fun _ _ _ h => h) (Or.inl ⟨by rfl, ?hb_12⟩) hHeld ?rb_12
    case hb_12 => ((intro U hSw; obtain ⟨a1, a2, z0, z1, z2, z3, z4, m0, m1, c0_, c1_, c2_, c3_, c4_⟩ := HY_b.out U hSw; go_simp); (try (with_reducible rfl)))
    try simp only [Act.put, List.setIfInBounds_toArray, List.set_cons_zero, List.set_cons_succ]
    refine ht_one 13 rfl (by kernel_rfl) (fun K hK => ?_)
    go_simp
    refine (idsPart_any x.outer (Rd.below hHeld _ _ HCP.out)).mono ?_
    rintro e w2 ⟨rfl, hb2⟩
    rw [← HQ2.out]
    go_wp2_with fail
    refine hK.out _ _ (hHeld.trans (hb2.mono hHeld.size)) (fun hHeld => ?_)
    clear hK K
    try simp only [Act.put, List.setIfInBounds_toArray, List.set_cons_zero, List.set_cons_succ]
    refine ht_take 14 (v := ?vb_13) rfl (by kernel_rfl) (fun _ _ _ h => h) (Or.inl ⟨by rfl, ?hb_13⟩) hHeld ?rb_13
    case hb_13 => ((intro U hSw; obtain ⟨a1, a2, z0, z1, z2, z3, z4, m0, m1, c0_, c1_, c2_, c3_, c4_⟩ := HY_b.out U hSw; go_simp); (try (with_reducible rfl)))
    try simp only [Act.put, List.setIfInBounds_toArray, List.set_cons_zero, List.set_cons_succ]
    refine ht_take 15 (v := ?vb_14) rfl (by kernel_rfl) (fun _ _ _ h => h) (Or.inl ⟨by rfl, ?hb_14⟩) hHeld ?rb_14
    case hb_14 => ((intro U hSw; obtain ⟨a1, a2, z0, z1, z2, z3, z4, m0, m1, c0_, c1_, c2_, c3_, c4_⟩ := HY_b.out U hSw; go_simp); (try (with_reducible rfl)))
    try simp only [Act.put, List.setIfInBounds_toArray, List.set_cons_zero, List.set_cons_succ]
    refine ht_done (by kernel_rfl) rfl ?_
    have HF := Lib.hid (HBW.out.trans (hHeld.mono HBW.out.size))
    clear hHeld
    go_wp2_with fail
    go_ret
    exact ⟨ret_bool (by simp <;> omega), HF.out⟩
theorem items4_any {w : World} {l : List ItemD} {A : Option Addr} {cap : Nat} (hl : Rd w (itemsD l) (.slice A l.length cap)) {g : Nat} (hb : Blk w g 24 #[.slice A l.length cap]) (x : SeqD) :
    Calls Try.prog 66 #[.agg #[.string x.id, .string x.src, .string x.dst], .pointer (some ⟨g, 0, none⟩)] w fun e w' => e = .returned (.bool (badSeq l x)) ∧ Below w.heap.size w w' := by
  have h1 := fun W (k : Below w.heap.size w W) => idsItem_any x.src (Rd.below k _ _ hl)
  have h2 := fun W (k : Below w.heap.size w W) => idsItem_any x.dst (Rd.below k _ _ hl)
  have H1 := Lib.hid h1
  have H2 := Lib.hid h2
  have HB := Lib.hid hb
  unfold badSeq itemAt
  obtain ⟨q1, hq1⟩ : ∃ q, q = findFrom (fun y : ItemD => eqS y.id x.src) l 0 := ⟨_, rfl⟩
  obtain ⟨q2, hq2⟩ : ∃ q, q = findFrom (fun y : ItemD => eqS y.id x.dst) l 0 := ⟨_, rfl⟩
  rw [← hq1] at H1
  rw [← hq2] at H2
  rw [← hq1, ← hq2]
  have hgl := hb.lt
  have x0 : w.cell? ⟨g, 0, none⟩ = some (.slice A l.length cap) := hb.cell 0
  clear h1 h2 hl hb hq1 hq2
  go_enter Try.func66, Try.ntmps66
  go_wp2_with fail
  refine (H1.out _ ((Below.refl _ _).alloc (Nat.le_refl _) _)).mono ?_
  rintro e w1 ⟨rfl, hb1⟩
  have hbx := (Blk.new w 33 #[.string x.id, .string x.src, .string x.dst]).below hb1 (by simp)
  have y2 : w1.cell? ⟨w.heap.size, 2, none⟩ = some (.string x.dst) := hbx.cell 2
  have hbw := ((Below.refl w.heap.size w).alloc (Nat.le_refl _) (.cells #[.string x.id, .string x.src, .string x.dst] 33)).trans (hb1.mono (by simp))
  have y0 : w1.cell? ⟨g, 0, none⟩ = some (.slice A l.length cap) := (HB.out.below hbw HB.out.lt).cell 0
  have HBW := Lib.hid hbw
  clear hb1 hbx hbw x0 H1
  by_cases hq : q1 < 0
  · go_wp2_with fail
    go_ret
    exact ⟨ret_bool (by simp <;> omega), HBW.out⟩
  · go_wp2_with fail
    refine (H2.out _ HBW.out).mono ?_
    rintro e w2 ⟨rfl, hb2⟩
    go_wp2_with fail
    go_ret
    exact ⟨ret_bool (by simp <;> omega), HBW.out.trans (hb2.mono HBW.out.size)⟩
end Go.Proofs.Ytljmghaplnkohaa
