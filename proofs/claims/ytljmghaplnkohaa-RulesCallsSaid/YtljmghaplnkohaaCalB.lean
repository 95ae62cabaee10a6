/- The walk of the law RulesCalls. -/
import Derived.Test.YtljmghaplnkohaaCalA
import Derived.Test.YtljmghaplnkohaaEdt
import Derived.Test.YtljmghaplnkohaaReg
import Derived.Deep.MidRow
import Derived.Deep.CutBlock
import Derived.Deep.DeepCutAuto
namespace Go.Proofs.Ytljmghaplnkohaa
open Go.RowKit
attribute [local go_sem ↓] Go.wp_at_zero Go.wp_at_succ

def mapV (m : MapD) : List Value := [.string m.inner, .string m.outer]
theorem maps_rd {W : World} : ∀ ms : List MapD, RdL W (ms.flatMap mapC) (ms.flatMap mapV)
  | [] => rdl_nil.2 rfl
  | m :: ms => by
    rw [List.flatMap_cons, List.flatMap_cons]
    exact RdL.append (xs := mapV m) (rdl_cons.2 ⟨_, _, rfl, rd_str.2 rfl, rdl_cons.2 ⟨_, _, rfl, rd_str.2 rfl, rdl_nil.2 rfl⟩⟩) (maps_rd ms)
theorem maps_eq {W : World} : ∀ {ms : List MapD} {xs : List Value}, RdL W (ms.flatMap mapC) xs → xs = ms.flatMap mapV
  | [], xs, h => rdl_nil.1 h
  | m :: ms, xs, h => by
    rw [List.flatMap_cons] at h
    obtain ⟨a, b, rfl, ha, hb⟩ := h.split
    rw [rd_mapC ha, maps_eq hb, List.flatMap_cons]
    rfl
theorem maps_one (ms : List MapD) : ∀ u ∈ ms.flatMap mapV, u.oneCell' = true := fun u hu => by
  obtain ⟨m, _, hm⟩ := List.mem_flatMap.1 hu
  unfold mapV at hm
  simp only [List.mem_cons, List.not_mem_nil, or_false] at hm
  rcases hm with rfl | rfl <;> rfl
/-- Where a row of maps that is known lies, and what its cells are. -/
theorem maps_reads {w : World} {ms : List MapD} {A : Option Addr} {n c : Nat} (hn : ms.length = n) (h : Rd w (mapsD ms) (.slice A n c)) : Reads w w.heap.size 2 A n (ms.flatMap mapV) := by
  subst hn
  obtain ⟨A', c', xs, hv, ho, hl⟩ := rd_slo.1 h
  injection hv with e1 _ e3
  subst e1
  subst e3
  have hx := maps_eq hl
  subst hx
  refine ⟨ho.1, fun h0 => ?_⟩
  rcases id ho.2 with ⟨_, h1⟩ | ⟨g, o, cap, cur, h1, hg, _⟩
  · omega
  · injection h1 with e1 _ e3
    subst e1
    subst e3
    refine ⟨_, rfl, (Array.getElem?_eq_some_iff.1 hg).1, fun j u hu => ?_⟩
    rw [Addr.add_mid]
    have hj : j < ms.length * 2 := by rw [← ho.1]; exact (List.getElem?_eq_some_iff.1 hu).1
    rw [rowAt_cell ho j hj]
    exact hu
/-- The changed document in memory: its items, its call's row of maps. -/
structure CalE (w1 : World) (gb gd gI gM nI kI nM kM : Nat) (cs ds : Array Value) (xs ms : List Value) (W : World) : Prop where
  gr : w1.grownBy W (some gb)
  blk : Blk W gb 54 cs
  box : Blk W gd 42 ds
  oI : W.ownsRow w1.heap.size 30 10 (.slice (some ⟨gI, 0, none⟩) nI kI) nI xs
  oM : W.ownsRow w1.heap.size 71 2 (.slice (some ⟨gM, 0, none⟩) nM kM) nM ms
section
variable {w1 W W' : World} {gb gd gI gM nI kI nM kM : Nat} {cs ds : Array Value} {xs ms : List Value}
theorem CalE.below (h : CalE w1 gb gd gI gM nI kI nM kM cs ds xs ms W) (k : Below W.heap.size W W') : CalE w1 gb gd gI gM nI kI nM kM cs ds xs ms W' :=
  ⟨gr_below h.gr k, h.blk.below k h.blk.lt, h.box.below k h.box.lt, own_below h.oI k, own_below h.oM k⟩
theorem CalE.drew (h : CalE w1 gb gd gI gM nI kI nM kM cs ds xs ms W) : CalE w1 gb gd gI gM nI kI nM kM cs ds xs ms W.drew := h.below (Below.refl _ _).drew
theorem CalE.putI (h : CalE w1 gb gd gI gM nI kI nM kM cs ds xs ms W) (i : Nat) (u : Value) : CalE w1 gb gd gI gM nI kI nM kM cs ds (xs.set i u) ms (W.setCell ⟨gI, i, none⟩ u) :=
  ⟨gr_set h.gr gI i u (.inr (own_base h.oI).1), h.blk.far (p := ⟨gI, i, none⟩) (fun e => blk_own_ne h.oI h.blk (by decide) (by rw [e]; rfl)) u, h.box.far (p := ⟨gI, i, none⟩) (fun e => blk_own_ne h.oI h.box (by decide) (by rw [e]; rfl)) u, (h.oI.stored i u).1,
    ownsRow_setCell_other (a := ⟨gI, i, none⟩) h.oM (fun e => own_ne h.oI h.oM (by decide) gI rfl e) u⟩
theorem CalE.putM (h : CalE w1 gb gd gI gM nI kI nM kM cs ds xs ms W) (i : Nat) (u : Value) : CalE w1 gb gd gI gM nI kI nM kM cs ds xs (ms.set i u) (W.setCell ⟨gM, i, none⟩ u) :=
  ⟨gr_set h.gr gM i u (.inr (own_base h.oM).1), h.blk.far (p := ⟨gM, i, none⟩) (fun e => blk_own_ne h.oM h.blk (by decide) (by rw [e]; rfl)) u, h.box.far (p := ⟨gM, i, none⟩) (fun e => blk_own_ne h.oM h.box (by decide) (by rw [e]; rfl)) u,
    ownsRow_setCell_other (a := ⟨gM, i, none⟩) h.oI (fun e => own_ne h.oM h.oI (by decide) gM rfl e) u, (h.oM.stored i u).1⟩
end
theorem OpenD.chorV {w w1 : World} {c : ChorD} {r : List ChorD} {gb : Nat} {A1 AP AF AI AS : Option Addr} {c1 cP cF cI cS : Nat} {xs xsI xsF xsS : List Value} (o : OpenD w w1 c r gb A1 AP AF AI AS c1 cP cF cI cS xs xsI xsF xsS) :
    ChorV w1 c (.slice AP c.parts.length cP) (.slice AF c.flows.length cF) (.slice AI c.items.length cI) (.slice AS c.seqs.length cS) := by
  obtain ⟨A', k', xsC, hvC, hoC, hlC⟩ := rd_sl.1 o.chs
  injection hvC with e1 e2 e3
  subst e1
  subst e3
  have kb := blk_of_ownC hoC
  have k2 := o.blk
  unfold Blk at kb k2
  rw [k2] at kb
  injection kb with kb
  injection kb with kb
  have kb := congrArg Array.toList kb
  dsimp only at kb
  subst kb
  rw [List.flatMap_cons] at hlC
  obtain ⟨a, b, hab, hlc, _⟩ := hlC.split
  obtain ⟨vP, vF, vI, vS, rfl, hV⟩ := rd_chorC.1 hlc
  simp only [List.cons_append, List.nil_append, List.cons.injEq] at hab
  obtain ⟨_, rfl, rfl, rfl, rfl, _⟩ := hab
  exact hV
/-- What rules.Check tells of it. -/
theorem cal_calls {w w1 W : World} {d : DocD} {c x : ChorD} {l : List ItemD} {call sub : ItemD} {gb gd gI gM kI nM kM : Nat} {A3 AP AF AI AS : Option Addr} {c3 cP cF cI cS : Nat} {xs xsI xsF xsS ys : List Value} {ms : List MapD} {vM : Value} {r e : Int} {id : ByteArray}
    (o : OpenD w w1 c [x] gb A3 AP AF AI AS c3 cP cF cI cS xs xsI xsF xsS) (hW : NestW d c x l call sub)
    (h : CalE w1 gb gd gI gM c.items.length kI nM kM (chCs c.id (.slice AP c.parts.length cP) (.slice AF c.flows.length cF) (.slice (some ⟨gI, 0, none⟩) c.items.length kI) (.slice AS c.seqs.length cS) xs) #[.slice A3 4 c3, .slice (some ⟨gb, 0, none⟩) 2 2] (xsI.set (l.length * 10 + 7) vM) ys W) (hM : Rd W (mapsD ms) vM) (hk : ckF ⟨gmsgsF, [calC c l call sub ms, x]⟩ = (r, id, e)) :
    ∀ U, Below W.heap.size W U → Calls Try.prog 29 #[.agg #[.slice A3 4 c3, .slice (some ⟨gb, 0, none⟩) 2 2]] U fun z w' => z = .returned (.tuple #[.int .i64 r, .string id, .int .i64 e]) ∧ Below U.heap.size U w' := by
  intro U hU
  have hl : l.length < c.items.length := by rw [hW.items]; simp
  have hc : c.items[l.length] = call := by simp [hW.items]
  have hI := elem_set (W := W) (f := itemC) itemC_len (y := setMaps call ms) (u := vM) (show 7 < 10 by decide) c.items l.length hl xsI (fun vs hv => by
    rw [hc] at hv
    obtain ⟨v3, v4, v7, v8, v9, rfl, h3, h4, h7, h8, h9⟩ := rd_itemC.1 hv
    exact rd_itemC.2 ⟨v3, v4, vM, v8, v9, rfl, h3, h4, hM, h8, h9⟩) (o.itemL h.gr)
  have hs : c.items.set l.length (setMaps call ms) = l ++ [setMaps call ms, sub] := by rw [hW.items, List.set_append_right _ _ (Nat.le_refl _), Nat.sub_self, List.set_cons_zero]
  rw [hs] at hI
  have hr : RdL W ([x].flatMap chorC) xs := RdL.grown h.gr o.blk _ _ (free_flat (fun x => free_chor _ (by decide) (by decide) (by decide) (by decide) (by decide) (by decide) x) [x]) o.rest
  have cv := o.chorV
  have hch : Rd W (chorsD [calC c l call sub ms, x]) (.slice (some ⟨gb, 0, none⟩) 2 2) := by
    refine chors_blk (c := calC c l call sub ms) (r := [x]) (xs := xs) (vP := .slice AP c.parts.length cP) (vF := .slice AF c.flows.length cF) (vI := .slice (some ⟨gI, 0, none⟩) c.items.length kI) (vS := .slice AS c.seqs.length cS) ?_ rfl (by decide) (gr_parts h.gr o.blk cv.1) (gr_flows h.gr o.blk cv.2.1) (rd_ownR h.oI hI (by rw [hW.items]; simp [calC])) (gr_seqs h.gr o.blk cv.2.2.2) hr
    have := h.blk
    simpa only [chCs, List.append_toArray, List.cons_append, List.nil_append, calC] using this
  have hm : Rd W (msgsD gmsgsF) (.slice A3 4 c3) := gr_msgs h.gr o.blk o.msgs
  have k := ruleCheck_any (w := U) (d := ⟨gmsgsF, [calC c l call sub ms, x]⟩) (A1 := A3) (c1 := c3) (B1 := some ⟨gb, 0, none⟩) (k1 := 2) (cal_lv hW ms) (Rd.below hU _ _ hm) (Rd.below hU _ _ hch) (by rw [cal_ids hW]; exact hW.nest.fit)
  rw [hk] at k
  exact k
theorem mapsV_len (ms : List MapD) : (ms.flatMap mapV).length = ms.length * 2 := by
  induction ms with
  | nil => rfl
  | cons m ms ih => rw [List.flatMap_cons, List.length_append, ih, List.length_cons, Nat.succ_mul, Nat.add_comm]; rfl
theorem maps_own {W : World} {B g n k : Nat} {ms : List MapD} (h : W.ownsRow B 71 2 (.slice (some ⟨g, 0, none⟩) n k) n (ms.flatMap mapV)) (hn : ms.length = n) : Rd W (mapsD ms) (.slice (some ⟨g, 0, none⟩) n k) := by
  subst hn
  exact rd_slo.2 ⟨_, _, _, rfl, rowAt_own h, maps_rd ms⟩
theorem maps_tail {W : World} {B g n k : Nat} {m : MapD} {ms : List MapD} (h : W.ownsRow B 71 2 (.slice (some ⟨g, 0, none⟩) (n + 1) (k + 1)) (n + 1) ((m :: ms).flatMap mapV)) (hn : ms.length = n) : Rd W (mapsD ms) (.slice (some ⟨g, 2, none⟩) n k) := by
  subst hn
  refine rd_slo.2 ⟨_, _, _, rfl, ⟨mapsV_len ms, ?_⟩, maps_rd ms⟩
  rcases h.2 with ⟨h1, _⟩ | ⟨g', cap, cur, h1, _, hg, h4, h5, h6, h7⟩
  · cases h1
  · injection h1 with e1 _ e3
    injection e1 with e1
    injection e1 with e1 _ _
    subst e1
    subst e3
    refine .inr ⟨g, 2, k, cur, rfl, hg, by omega, by omega, ?_⟩
    have h8 := congrArg (List.drop 2) h7
    rw [List.drop_take, show (ms.length + 1) * 2 - 2 = ms.length * 2 by omega] at h8
    rw [h8, List.flatMap_cons]
    rfl
set_option maxRecDepth 100000 in
set_option maxHeartbeats 32000000 in
theorem rulesCalls_walk (A0 : Option Addr) (c0 : Nat) (x0 : List Int) (A1 : Option Addr) (c1 : Nat) (x1 : List Int) (a2 : Int) (w : World) (m0 : x0.length ≤ maxLen) (h0 : IntsAt w A0 x0) (m1 : x1.length ≤ maxLen) (h1 : IntsAt w A1 x1) (_w2 : (Lit.int .i64 a2).wf = true) :
    Calls Try.prog 9 #[.slice A0 x0.length c0, .slice A1 x1.length c1, .int .i64 a2] w fun e w' => e = .returned (.bool true) ∧ Below w.heap.size w w' := by
  obtain ⟨ii0, hii0, hiz0, hiz1, hiz2⟩ := info_parts Try.infoItemG
  obtain ⟨mi0, hmi0, hmz0, hmz1, hmz2⟩ := info_parts Try.infoMapG
  have hgen := nested_genN (cap := c0) (capq := c1) h0 m0 h1 m1
  obtain ⟨d, c, x, l, call, sub, hd, hW⟩ := nest_w x0 x1 m0 m1
  rw [← hd] at hgen
  obtain ⟨p0, p1, r, hmaps, hr2, k0, k1, k2, k3⟩ := cal_maps hW
  have hcl : c.items.length = l.length + 2 := by rw [hW.items]; simp
  have hlI : (c.items.length : Int) - 2 = (l.length : Int) := by omega
  have hlJ : (l.length : Int) < (c.items.length : Int) := by omega
  have hl1 := hW.lens.1
  obtain ⟨ln, hln⟩ : ∃ n, n = c.items.length := ⟨_, rfl⟩
  obtain ⟨lc, hlc⟩ : ∃ n, n = l.length := ⟨_, rfl⟩
  obtain ⟨q, hq, hq4⟩ : ∃ q : Nat, bits BinOp.and IntKind.i64 a2 3 = (q : Int) ∧ q < 4 := ⟨(bits BinOp.and IntKind.i64 a2 3).toNat, (Int.toNat_of_nonneg (am3 a2).1).symm, by have := (am3 a2).2; omega⟩
  unfold gcallS at k0 k1 k2
  have HK0 := Lib.hid k0
  have HK1 := Lib.hid k1
  have HK2 := Lib.hid k2
  have HK3 := Lib.hid k3
  have HMP := Lib.hid hmaps
  have HW := Lib.hid hW
  have HQ := Lib.hid hq
  have HQ4 := Lib.hid hq4
  have HGEN := Lib.hid hgen
  have HCL := Lib.hid hcl
  clear k0 k1 k2 k3 hmaps hW hq hq4 hgen h0 m0 h1 m1 hd hln hlc ln lc hcl
  go_enter Try.func9, Try.ntmps9
  go_upto_region 1 with fail
  go_wp2_with fail
  refine HGEN.out.mono ?_
  clear HGEN
  rintro e w1 hE
  obtain ⟨A3, c3, gb, AP, cP, AF, cF, AI, cI, AS, cS, xs, xsI, xsF, xsS, rfl, hO⟩ := doc_open (n := 2) (r := [x]) rfl HW.out.nest.eq hE
  obtain ⟨gd, hgd⟩ : ∃ g, g = w1.heap.size := ⟨_, rfl⟩
  obtain ⟨V1, hV1⟩ : ∃ V, V = w1.alloc (.cells #[.slice A3 4 c3, .slice (some ⟨gb, 0, none⟩) 2 2] 42) := ⟨_, rfl⟩
  have b11 : Below w1.heap.size w1 V1 := by rw [hV1]; exact (Below.refl _ _).alloc (Nat.le_refl _) _
  have kd : Blk V1 gd 42 #[.slice A3 4 c3, .slice (some ⟨gb, 0, none⟩) 2 2] := by rw [hV1, hgd]; exact Blk.new _ _ _
  have kb2 := hO.blk.below b11 hO.blk.lt
  have HO := Lib.hid hO
  have HB11 := Lib.hid b11
  have HKD := Lib.hid kd
  have HKB := Lib.hid kb2
  have HV1 := Lib.hid hV1.symm
  have HGD := Lib.hid hgd.symm
  have d0 : V1.cell? ⟨gd, 0, none⟩ = some (.slice A3 4 c3) := HKD.out.cell 0
  have d1 : V1.cell? ⟨gd, 1, none⟩ = some (.slice (some ⟨gb, 0, none⟩) 2 2) := HKD.out.cell 1
  have q0 : V1.cell? ⟨gb, 0, none⟩ = some (.string c.id) := HKB.out.cell 0
  have q1 : V1.cell? ⟨gb, 1, none⟩ = some (.slice AP c.parts.length cP) := HKB.out.cell 1
  have q2 : V1.cell? ⟨gb, 2, none⟩ = some (.slice AF c.flows.length cF) := HKB.out.cell 2
  have q3 : V1.cell? ⟨gb, 3, none⟩ = some (.slice AI c.items.length cI) := HKB.out.cell 3
  have q4 : V1.cell? ⟨gb, 4, none⟩ = some (.slice AS c.seqs.length cS) := HKB.out.cell 4
  have lgb2 := kb2.lt
  have hw12 := b11.size
  clear hO b11 kd kb2 hV1 hgd hE
  go_upto_region 3 with fail
  rw [HV1.out, HGD.out]
  clear HV1
  go_wp2_with (at_builtin; refine wpList_append_any _ rfl (.tmp 23) (.tmp 27) _ rfl w1.heap.size 30 ii0 _ 10 184 Try.underlying24 hii0 hiz0 hiz1 hiz2 rfl (by omega) (.slice (some ⟨V1.heap.size, 0, none⟩) 0 0) 0 [] rfl (World.ownsRow_lit (base := w1.heap.size) V1 #[] 0 hw12 (by decide) rfl) w1.heap.size AI c.items.length cI xsI rfl (HO.out.rI.below (HB11.out.alloc hw12 _)) HO.out.oI (by unfold maxLen; omega) (by omega) (by simp; omega) ?_)
  intro v3 w3 hown hgrow _
  try simp only [Nat.zero_add, List.nil_append] at hown
  obtain ⟨KI, kI, rfl, _, _⟩ := own_slice hown
  obtain ⟨gI, rfl, hgIl, hgIb, _⟩ := own_at hown (by have := HCL.out; omega)
  have kb4 := (HKB.out.alloc (.cells #[] 30)).grown hgrow (fun e => by simp [Value.ownBlock] at e; omega)
  have kd4 := (HKD.out.alloc (.cells #[] 30)).grown hgrow (fun e => by have := HKD.out.lt; simp [Value.ownBlock] at e; omega)
  have y3 : w3.cell? ⟨gb, 3, none⟩ = some (.slice AI c.items.length cI) := kb4.cell 3
  have f3 : w3.frozen? ⟨gb, 3, none⟩ = false := kb4.frozen 3
  have lb4 := kb4.lt
  obtain ⟨V3, hV3⟩ : ∃ V, V = w3.setCell ⟨gb, 3, none⟩ (.slice (some ⟨gI, 0, none⟩) c.items.length kI) := ⟨_, rfl⟩
  have gw : w1.grownBy V3 (some gb) := by
    rw [hV3]
    exact gr_set (gr_more (gr_alloc (grown_of_below HB11.out (some gb)) _) hgrow (fun q e => .inr (by simp [Value.ownBlock] at e; omega))) gb 3 _ (.inl rfl)
  have kb5 : Blk V3 gb 54 (chCs c.id (.slice AP c.parts.length cP) (.slice AF c.flows.length cF) (.slice (some ⟨gI, 0, none⟩) c.items.length kI) (.slice AS c.seqs.length cS) xs) := by
    rw [hV3]
    have := kb4.set_ 3 (.slice (some ⟨gI, 0, none⟩) c.items.length kI)
    simpa only [chCs, List.setIfInBounds_toArray, List.set_cons_zero, List.set_cons_succ] using this
  have kd5 : Blk V3 gd 42 #[.slice A3 4 c3, .slice (some ⟨gb, 0, none⟩) 2 2] := by
    rw [hV3]
    exact kd4.far (p := ⟨gb, 3, none⟩) (blk_ne kd4 kb4 (by decide)) _
  have oI5 : V3.ownsRow w1.heap.size 30 10 (.slice (some ⟨gI, 0, none⟩) c.items.length kI) c.items.length xsI := by
    rw [hV3]
    exact ownsRow_setCell_other (a := ⟨gb, 3, none⟩) hown (blk_own_ne hown kb4 (by decide)) _
  obtain ⟨vs, hvl, hvs, hva⟩ := rdl_at itemC_len l.length (by have := HCL.out; omega) (HO.out.itemL gw)
  have hcc : c.items[l.length]'(by have := HCL.out; omega) = call := by simp [HW.out.items]
  rw [hcc] at hvs
  obtain ⟨v3, v4, v7, v8, v9, rfl, _, _, hM7, _, _⟩ := rd_itemC.1 hvs
  obtain ⟨AM, cM, rfl⟩ := rd_form hM7
  have hml : call.maps.length = r.length + 2 := by rw [HMP.out]; rfl
  rw [hml] at hM7 hva hvs
  have hrM := maps_reads hml hM7
  have i7 : V3.cell? ⟨gI, l.length * 10 + 7, none⟩ = some (.slice AM (r.length + 2) cM) := by
    rw [oI5.cellAt _ (by have := HCL.out; omega), hva 7 (by omega)]; rfl
  have fi7 : V3.frozen? ⟨gI, l.length * 10 + 7, none⟩ = false := oI5.frozenAt _
  have z3 : V3.cell? ⟨gb, 3, none⟩ = some (.slice (some ⟨gI, 0, none⟩) c.items.length kI) := kb5.cell 3
  have lgb3 := kb5.lt
  have lgI3 := (own_base oI5).2
  have lgI0 := (own_base oI5).1
  have lgw := gw.size
  have HGW := Lib.hid gw
  have HKB5 := Lib.hid kb5
  have HKD5 := Lib.hid kd5
  have HOI5 := Lib.hid oI5
  have HRM := Lib.hid hrM
  have HV3 := Lib.hid hV3.symm
  clear gw kb5 kd5 oI5 hrM hV3 hvs hva hvl hM7 hcc hml kb4 kd4 hown hgrow hgIl d0 d1 q0 q1 q2 q3 q4
  go_upto_region 4 with fail
  rw [HV3.out]
  clear HV3 y3 f3 lb4
  refine wp_region_HT 11 (fun U => Below V3.heap.size V3 U) (by kernel_rfl) (by decide) ((Below.refl _ _).drew) (fun hHeld => ?_)
  refine ht_take 0 (v := ?vwa_1) rfl (by kernel_rfl) (fun _ _ _ h => h) (Or.inl ⟨by rfl, ?hwa_1⟩) hHeld ?rwa_1
  case hwa_1 => ((intro U hSw; have y3 : U.cell? ⟨gb, 3, none⟩ = some (.slice (some ⟨gI, 0, none⟩) c.items.length kI) := (hSw.cell (p := ⟨gb, 3, none⟩) lgb3).trans z3; have yw : IntKind.i64.wrap (l.length : Int) = (l.length : Int) := Go.IntWalk.i64_in _ (by omega); go_simp); (try (with_reducible rfl)))
  try simp only [Act.put, List.setIfInBounds_toArray, List.set_cons_zero, List.set_cons_succ]
  refine ht_take 1 (v := ?vwa_2) rfl (by kernel_rfl) (fun _ _ _ h => h) (Or.inl ⟨by rfl, ?hwa_2⟩) hHeld ?rwa_2
  case hwa_2 => ((intro U hSw; have y3 : U.cell? ⟨gb, 3, none⟩ = some (.slice (some ⟨gI, 0, none⟩) c.items.length kI) := (hSw.cell (p := ⟨gb, 3, none⟩) lgb3).trans z3; have yw : IntKind.i64.wrap (l.length : Int) = (l.length : Int) := Go.IntWalk.i64_in _ (by omega); go_simp); (try (with_reducible rfl)))
  try simp only [Act.put, List.setIfInBounds_toArray, List.set_cons_zero, List.set_cons_succ]
  refine ht_take 2 (v := ?vwa_3) rfl (by kernel_rfl) (fun _ _ _ h => h) (Or.inl ⟨by rfl, ?hwa_3⟩) hHeld ?rwa_3
  case hwa_3 => ((intro U hSw; have y3 : U.cell? ⟨gb, 3, none⟩ = some (.slice (some ⟨gI, 0, none⟩) c.items.length kI) := (hSw.cell (p := ⟨gb, 3, none⟩) lgb3).trans z3; have yw : IntKind.i64.wrap (l.length : Int) = (l.length : Int) := Go.IntWalk.i64_in _ (by omega); go_simp); (try (with_reducible rfl)))
  try simp only [Act.put, List.setIfInBounds_toArray, List.set_cons_zero, List.set_cons_succ]
  refine ht_take 3 (v := ?vwa_4) rfl (by kernel_rfl) (fun _ _ _ h => h) (Or.inl ⟨by rfl, ?hwa_4⟩) hHeld ?rwa_4
  case hwa_4 => ((intro U hSw; have y3 : U.cell? ⟨gb, 3, none⟩ = some (.slice (some ⟨gI, 0, none⟩) c.items.length kI) := (hSw.cell (p := ⟨gb, 3, none⟩) lgb3).trans z3; have yw : IntKind.i64.wrap (l.length : Int) = (l.length : Int) := Go.IntWalk.i64_in _ (by omega); go_simp); (try (with_reducible rfl)))
  try simp only [Act.put, List.setIfInBounds_toArray, List.set_cons_zero, List.set_cons_succ]
  refine ht_take 4 (v := ?vwa_5) rfl (by kernel_rfl) (fun _ _ _ h => h) (Or.inl ⟨by rfl, ?hwa_5⟩) hHeld ?rwa_5
  case hwa_5 => ((intro U hSw; have y3 : U.cell? ⟨gb, 3, none⟩ = some (.slice (some ⟨gI, 0, none⟩) c.items.length kI) := (hSw.cell (p := ⟨gb, 3, none⟩) lgb3).trans z3; have yw : IntKind.i64.wrap (l.length : Int) = (l.length : Int) := Go.IntWalk.i64_in _ (by omega); go_simp); (try (with_reducible rfl)))
  try simp only [Act.put, List.setIfInBounds_toArray, List.set_cons_zero, List.set_cons_succ]
  refine ht_take 5 (v := ?vwa_6) rfl (by kernel_rfl) (fun _ _ _ h => h) (Or.inl ⟨by rfl, ?hwa_6⟩) hHeld ?rwa_6
  case hwa_6 => ((intro U hSw; have y3 : U.cell? ⟨gb, 3, none⟩ = some (.slice (some ⟨gI, 0, none⟩) c.items.length kI) := (hSw.cell (p := ⟨gb, 3, none⟩) lgb3).trans z3; have yw : IntKind.i64.wrap (l.length : Int) = (l.length : Int) := Go.IntWalk.i64_in _ (by omega); go_simp); (try (with_reducible rfl)))
  try simp only [Act.put, List.setIfInBounds_toArray, List.set_cons_zero, List.set_cons_succ]
  refine ht_take 6 (v := ?vwa_7) rfl (by kernel_rfl) (fun _ _ _ h => h) (Or.inl ⟨by rfl, ?hwa_7⟩) hHeld ?rwa_7
  case hwa_7 => ((intro U hSw; have y3 : U.cell? ⟨gb, 3, none⟩ = some (.slice (some ⟨gI, 0, none⟩) c.items.length kI) := (hSw.cell (p := ⟨gb, 3, none⟩) lgb3).trans z3; have yw : IntKind.i64.wrap (l.length : Int) = (l.length : Int) := Go.IntWalk.i64_in _ (by omega); go_simp); (try (with_reducible rfl)))
  try simp only [Act.put, List.setIfInBounds_toArray, List.set_cons_zero, List.set_cons_succ]
  refine ht_take 7 (v := ?vwa_8) rfl (by kernel_rfl) (fun _ _ _ h => h) (Or.inl ⟨by rfl, ?hwa_8⟩) hHeld ?rwa_8
  case hwa_8 => ((intro U hSw; have y3 : U.cell? ⟨gb, 3, none⟩ = some (.slice (some ⟨gI, 0, none⟩) c.items.length kI) := (hSw.cell (p := ⟨gb, 3, none⟩) lgb3).trans z3; have yw : IntKind.i64.wrap (l.length : Int) = (l.length : Int) := Go.IntWalk.i64_in _ (by omega); go_simp); (try (with_reducible rfl)))
  try simp only [Act.put, List.setIfInBounds_toArray, List.set_cons_zero, List.set_cons_succ]
  refine ht_take 8 (v := ?vwa_9) rfl (by kernel_rfl) (fun _ _ _ h => h) (Or.inl ⟨by rfl, ?hwa_9⟩) hHeld ?rwa_9
  case hwa_9 => ((intro U hSw; have y3 : U.cell? ⟨gb, 3, none⟩ = some (.slice (some ⟨gI, 0, none⟩) c.items.length kI) := (hSw.cell (p := ⟨gb, 3, none⟩) lgb3).trans z3; have yw : IntKind.i64.wrap (l.length : Int) = (l.length : Int) := Go.IntWalk.i64_in _ (by omega); go_simp); (try (with_reducible rfl)))
  try simp only [Act.put, List.setIfInBounds_toArray, List.set_cons_zero, List.set_cons_succ]
  refine ht_take 9 (v := ?vwa_10) rfl (by kernel_rfl) (fun _ _ _ h => h) (Or.inl ⟨by rfl, ?hwa_10⟩) hHeld ?rwa_10
  case hwa_10 => ((intro U hSw; have y3 : U.cell? ⟨gb, 3, none⟩ = some (.slice (some ⟨gI, 0, none⟩) c.items.length kI) := (hSw.cell (p := ⟨gb, 3, none⟩) lgb3).trans z3; have yw : IntKind.i64.wrap (l.length : Int) = (l.length : Int) := Go.IntWalk.i64_in _ (by omega); go_simp); (try (with_reducible rfl)))
  try simp only [Act.put, List.setIfInBounds_toArray, List.set_cons_zero, List.set_cons_succ]
  refine ht_take 10 (v := ?vwa_11) rfl (by kernel_rfl) (fun _ _ _ h => h) (Or.inl ⟨by rfl, ?hwa_11⟩) hHeld ?rwa_11
  case hwa_11 => ((intro U hSw; have y3 : U.cell? ⟨gb, 3, none⟩ = some (.slice (some ⟨gI, 0, none⟩) c.items.length kI) := (hSw.cell (p := ⟨gb, 3, none⟩) lgb3).trans z3; have yw : IntKind.i64.wrap (l.length : Int) = (l.length : Int) := Go.IntWalk.i64_in _ (by omega); go_simp); (try (with_reducible rfl)))
  try simp only [Act.put, List.setIfInBounds_toArray, List.set_cons_zero, List.set_cons_succ]
  refine ht_done (by kernel_rfl) rfl ?_
  clear hHeld
  go_upto_region 5 with fail
  go_wp2_with (at_builtin; refine wpList_append_any _ rfl (.tmp 43) (.tmp 47) _ rfl w1.heap.size 71 mi0 _ 2 32 Try.underlying28 hmi0 hmz0 hmz1 hmz2 rfl (by omega) (.slice (some ⟨V3.heap.size, 0, none⟩) 0 0) 0 [] rfl (World.ownsRow_lit (base := w1.heap.size) V3.drew #[] 0 lgw (by decide) rfl) V3.heap.size AM (r.length + 2) cM (call.maps.flatMap mapV) rfl (HRM.out.drew.alloc (Nat.le_refl _) _) (maps_one _) (by unfold maxLen; omega) (by omega) (by simp; omega) ?_)
  intro v5 w5 hown hgrow _
  try simp only [Nat.zero_add, List.nil_append] at hown
  obtain ⟨KM, kM, rfl, hkM, hkM2⟩ := own_slice hown
  obtain ⟨gM, rfl, hgMl, hgMb, _⟩ := own_at hown (by omega)
  have aI := own_below HOI5.out ((Below.refl V3.heap.size V3).drew.alloc (Nat.le_refl _) (.cells #[] 71))
  have kI6 := aI.kept hgrow (.inr (fun e => by simp [Value.ownBlock] at e; omega))
  have kb6 := (HKB5.out.below ((Below.refl V3.heap.size V3).drew.alloc (Nat.le_refl _) (.cells #[] 71)) lgb3).grown hgrow (fun e => by simp [Value.ownBlock] at e; omega)
  have kd6 := (HKD5.out.below ((Below.refl V3.heap.size V3).drew.alloc (Nat.le_refl _) (.cells #[] 71)) HKD5.out.lt).grown hgrow (fun e => by have := HKD5.out.lt; simp [Value.ownBlock] at e; omega)
  have gw6 : w1.grownBy w5 (some gb) := gr_more (gr_below HGW.out ((Below.refl V3.heap.size V3).drew.alloc (Nat.le_refl _) (.cells #[] 71))) hgrow (fun q e => .inr (by simp [Value.ownBlock] at e; omega))
  have i7 : w5.cell? ⟨gI, l.length * 10 + 7, none⟩ = some (.slice AM (r.length + 2) cM) := by
    rw [kI6.cellAt _ (by have := HCL.out; omega), ← HOI5.out.cellAt _ (by have := HCL.out; omega)]; exact i7
  have fi7 : w5.frozen? ⟨gI, l.length * 10 + 7, none⟩ = false := kI6.frozenAt _
  have lgI5 := (own_base kI6).2
  have hE0 : CalE w1 gb gd gI gM c.items.length kI (r.length + 2) kM (chCs c.id (.slice AP c.parts.length cP) (.slice AF c.flows.length cF) (.slice (some ⟨gI, 0, none⟩) c.items.length kI) (.slice AS c.seqs.length cS) xs) #[.slice A3 4 c3, .slice (some ⟨gb, 0, none⟩) 2 2] xsI (call.maps.flatMap mapV) w5 := ⟨gw6, kb6, kd6, kI6, hown⟩
  have hE1 := hE0.putI (l.length * 10 + 7) (.slice (some ⟨gM, 0, none⟩) (r.length + 2) kM)
  obtain ⟨T, hT⟩ : ∃ T, T = w5.setCell ⟨gI, l.length * 10 + 7, none⟩ (.slice (some ⟨gM, 0, none⟩) (r.length + 2) kM) := ⟨_, rfl⟩
  rw [← hT, HMP.out] at hE1
  have HE := Lib.hid hE1
  have HT := Lib.hid hT.symm
  have t7 : T.cell? ⟨gI, l.length * 10 + 7, none⟩ = some (.slice (some ⟨gM, 0, none⟩) (r.length + 2) kM) := by
    rw [hE1.oI.cellAt _ (by have := HCL.out; omega), List.getElem?_set_self (by rw [HO.out.rI.1]; have := HCL.out; omega)]
  have ft7 : T.frozen? ⟨gI, l.length * 10 + 7, none⟩ = false := hE1.oI.frozenAt _
  have u0 : T.cell? ⟨gM, 0, none⟩ = some (.string p0.inner) := (hE1.oM.cellAt 0 (by omega)).trans rfl
  have u1 : T.cell? ⟨gM, 1, none⟩ = some (.string p0.outer) := (hE1.oM.cellAt 1 (by omega)).trans rfl
  have fM2 : T.frozen? ⟨gM, 2, none⟩ = false := hE1.oM.frozenAt _
  have fM3 : T.frozen? ⟨gM, 3, none⟩ = false := hE1.oM.frozenAt _
  have u2 : T.cell? ⟨gM, 2, none⟩ = some (.string p1.inner) := (hE1.oM.cellAt 2 (by omega)).trans rfl
  have u3 : T.cell? ⟨gM, 3, none⟩ = some (.string p1.outer) := (hE1.oM.cellAt 3 (by omega)).trans rfl
  have td0 : T.cell? ⟨gd, 0, none⟩ = some (.slice A3 4 c3) := hE1.box.cell 0
  have td1 : T.cell? ⟨gd, 1, none⟩ = some (.slice (some ⟨gb, 0, none⟩) 2 2) := hE1.box.cell 1
  have lgIT := (own_base hE1.oI).2
  have lgMT := (own_base hE1.oM).2
  have lgdT := hE1.box.lt
  have hr1 : (1 : Int) ≤ (r.length : Int) + 2 := by omega
  have hr3 : (0 : Int) < (r.length : Int) + 2 := by omega
  have hr4 : (1 : Int) < (r.length : Int) + 2 := by omega
  have hr5 : ¬ kM = 1 := by omega
  have hkMI : (r.length : Int) + 2 ≤ (kM : Int) := by omega
  have HKM := Lib.hid hkM
  have HKM2 := Lib.hid hkM2
  clear hE0 hE1 hT gw6 kb6 kd6 kI6 aI hown hgrow hgMl z3 hkM hkM2
  go_upto_region 6 with fail
  rw [HT.out]
  clear HT i7 fi7 lgI5
  go_upto_region 9 with fail
  rw [HQ.out]
  have hqs : q = 0 ∨ q = 1 ∨ q = 2 ∨ q = 3 := by have := HQ4.out; omega
  clear HQ HQ4
  rcases hqs with rfl | rfl | rfl | rfl
  · go_upto_region 10 with fail
    obtain ⟨kN, rfl⟩ : ∃ k, kM = k + 1 := ⟨kM - 1, by have := HKM.out; omega⟩
    have hkN : (((kN + 1 : Nat) : Int) - 1).toNat = kN := by omega
    have hrN : ((r.length : Int) + 2 - 1).toNat = r.length + 1 := by omega
    have hkN0 : ¬ kN = 0 := by have := HKM.out; omega
    obtain ⟨T2, hT2⟩ : ∃ T', T' = T.setCell ⟨gI, l.length * 10 + 7, none⟩ (.slice (some ⟨gM, 2, none⟩) (r.length + 1) kN) := ⟨_, rfl⟩
    have hE2 := HE.out.putI (l.length * 10 + 7) (.slice (some ⟨gM, 2, none⟩) (r.length + 1) kN)
    rw [List.set_set] at hE2
    rw [← hT2] at hE2
    have hM2 : Rd T2 (mapsD (p1 :: r)) _ := maps_tail hE2.oM rfl
    have hRC := cal_calls HO.out HW.out hE2 hM2 HK0.out
    have HB9 := Lib.hid (gr_end HO.out.bel hE2.gr HO.out.ge HO.out.bel.size)
    have d0 : T2.cell? ⟨gd, 0, none⟩ = some (.slice A3 4 c3) := hE2.box.cell 0
    have d1 : T2.cell? ⟨gd, 1, none⟩ = some (.slice (some ⟨gb, 0, none⟩) 2 2) := hE2.box.cell 1
    have lg2 := hE2.box.lt
    have HRC := Lib.hid hRC
    have HT2 := Lib.hid hT2.symm
    clear hRC hE2 hT2 hM2
    go_upto_region 15 with fail
    rw [HT2.out]
    clear HT2 t7 ft7 u0 u1 u2 u3 td0 td1
    go_wp2_with fail
    refine (HRC.out T2 (Below.refl _ _)).mono ?_
    rintro e w7 ⟨rfl, hb7⟩
    go_wp2_with fail
    refine (awake_any _).mono ?_
    rintro e w8 ⟨rfl, hb8⟩
    have h28 := hb7.trans (hb8.mono hb7.size)
    have HFI := Lib.hid (HB9.out.trans (h28.mono HB9.out.size))
    clear hb7 hb8 h28
    go_wp2_with fail
    go_ret
    exact ⟨rfl, HFI.out⟩
  · go_upto_region 12 with fail
    have HY_wb := Lib.hid (fun (U : World) (hSw : (fun U => Below T.heap.size T U) U) => And.intro (show U.cell? ⟨gI, l.length * 10 + 7, none⟩ = some (.slice (some ⟨gM, 0, none⟩) (r.length + 2) kM) from (hSw.cell (p := ⟨gI, l.length * 10 + 7, none⟩) lgIT).trans t7) (And.intro (show U.cell? ⟨gM, 0, none⟩ = some (.string p0.inner) from (hSw.cell (p := ⟨gM, 0, none⟩) lgMT).trans u0) ((show U.cell? ⟨gM, 1, none⟩ = some (.string p0.outer) from (hSw.cell (p := ⟨gM, 1, none⟩) lgMT).trans u1))))
    refine wp_region_HT 13 (fun U => Below T.heap.size T U) (by kernel_rfl) (by decide) ((Below.refl _ _).drew) (fun hHeld => ?_)
    refine ht_take 0 (v := ?vwb_1) rfl (by kernel_rfl) (fun _ _ _ h => h) (Or.inl ⟨by rfl, ?hwb_1⟩) hHeld ?rwb_1
    case hwb_1 => ((intro U hSw; obtain ⟨x7, m0, m1⟩ := HY_wb.out U hSw; go_simp); (try (with_reducible rfl)))
    try simp only [Act.put, List.setIfInBounds_toArray, List.set_cons_zero, List.set_cons_succ]
    refine ht_take 1 (v := ?vwb_2) rfl (by kernel_rfl) (fun _ _ _ h => h) (Or.inl ⟨by rfl, ?hwb_2⟩) hHeld ?rwb_2
    case hwb_2 => ((intro U hSw; obtain ⟨x7, m0, m1⟩ := HY_wb.out U hSw; go_simp); (try (with_reducible rfl)))
    try simp only [Act.put, List.setIfInBounds_toArray, List.set_cons_zero, List.set_cons_succ]
    refine ht_take 2 (v := ?vwb_3) rfl (by kernel_rfl) (fun _ _ _ h => h) (Or.inl ⟨by rfl, ?hwb_3⟩) hHeld ?rwb_3
    case hwb_3 => ((intro U hSw; obtain ⟨x7, m0, m1⟩ := HY_wb.out U hSw; go_simp); (try (with_reducible rfl)))
    try simp only [Act.put, List.setIfInBounds_toArray, List.set_cons_zero, List.set_cons_succ]
    refine ht_take 3 (v := ?vwb_4) rfl (by kernel_rfl) (fun _ _ _ h => h) (Or.inl ⟨by rfl, ?hwb_4⟩) hHeld ?rwb_4
    case hwb_4 => ((intro U hSw; obtain ⟨x7, m0, m1⟩ := HY_wb.out U hSw; go_simp); (try (with_reducible rfl)))
    try simp only [Act.put, List.setIfInBounds_toArray, List.set_cons_zero, List.set_cons_succ]
    refine ht_take 4 (v := ?vwb_5) rfl (by kernel_rfl) (fun _ _ _ h => h) (Or.inl ⟨by rfl, ?hwb_5⟩) hHeld ?rwb_5
    case hwb_5 => ((intro U hSw; obtain ⟨x7, m0, m1⟩ := HY_wb.out U hSw; go_simp); (try (with_reducible rfl)))
    try simp only [Act.put, List.setIfInBounds_toArray, List.set_cons_zero, List.set_cons_succ]
    refine ht_take 5 (v := ?vwb_6) rfl (by kernel_rfl) (fun _ _ _ h => h) (Or.inl ⟨by rfl, ?hwb_6⟩) hHeld ?rwb_6
    case hwb_6 => ((intro U hSw; obtain ⟨x7, m0, m1⟩ := HY_wb.out U hSw; go_simp); (try (with_reducible rfl)))
    try simp only [Act.put, List.setIfInBounds_toArray, List.set_cons_zero, List.set_cons_succ]
    refine ht_take 6 (v := ?vwb_7) rfl (by kernel_rfl) (fun _ _ _ h => h) (Or.inl ⟨by rfl, ?hwb_7⟩) hHeld ?rwb_7
    case hwb_7 => ((intro U hSw; obtain ⟨x7, m0, m1⟩ := HY_wb.out U hSw; go_simp); (try (with_reducible rfl)))
    try simp only [Act.put, List.setIfInBounds_toArray, List.set_cons_zero, List.set_cons_succ]
    refine ht_take 7 (v := ?vwb_8) rfl (by kernel_rfl) (fun _ _ _ h => h) (Or.inl ⟨by rfl, ?hwb_8⟩) hHeld ?rwb_8
    case hwb_8 => ((intro U hSw; obtain ⟨x7, m0, m1⟩ := HY_wb.out U hSw; go_simp); (try (with_reducible rfl)))
    try simp only [Act.put, List.setIfInBounds_toArray, List.set_cons_zero, List.set_cons_succ]
    refine ht_take 8 (v := ?vwb_9) rfl (by kernel_rfl) (fun _ _ _ h => h) (Or.inl ⟨by rfl, ?hwb_9⟩) hHeld ?rwb_9
    case hwb_9 => ((intro U hSw; obtain ⟨x7, m0, m1⟩ := HY_wb.out U hSw; go_simp); (try (with_reducible rfl)))
    try simp only [Act.put, List.setIfInBounds_toArray, List.set_cons_zero, List.set_cons_succ]
    refine ht_take 9 (v := ?vwb_10) rfl (by kernel_rfl) (fun _ _ _ h => h) (Or.inl ⟨by rfl, ?hwb_10⟩) hHeld ?rwb_10
    case hwb_10 => ((intro U hSw; obtain ⟨x7, m0, m1⟩ := HY_wb.out U hSw; go_simp); (try (with_reducible rfl)))
    try simp only [Act.put, List.setIfInBounds_toArray, List.set_cons_zero, List.set_cons_succ]
    refine ht_take 10 (v := ?vwb_11) rfl (by kernel_rfl) (fun _ _ _ h => h) (Or.inl ⟨by rfl, ?hwb_11⟩) hHeld ?rwb_11
    case hwb_11 => ((intro U hSw; obtain ⟨x7, m0, m1⟩ := HY_wb.out U hSw; go_simp); (try (with_reducible rfl)))
    try simp only [Act.put, List.setIfInBounds_toArray, List.set_cons_zero, List.set_cons_succ]
    refine ht_take 11 (v := ?vwb_12) rfl (by kernel_rfl) (fun _ _ _ h => h) (Or.inl ⟨by rfl, ?hwb_12⟩) hHeld ?rwb_12
    case hwb_12 => ((intro U hSw; obtain ⟨x7, m0, m1⟩ := HY_wb.out U hSw; go_simp); (try (with_reducible rfl)))
    try simp only [Act.put, List.setIfInBounds_toArray, List.set_cons_zero, List.set_cons_succ]
    refine ht_take 12 (v := ?vwb_13) rfl (by kernel_rfl) (fun _ _ _ h => h) (Or.inl ⟨by rfl, ?hwb_13⟩) hHeld ?rwb_13
    case hwb_13 => ((intro U hSw; obtain ⟨x7, m0, m1⟩ := HY_wb.out U hSw; go_simp); (try (with_reducible rfl)))
    try simp only [Act.put, List.setIfInBounds_toArray, List.set_cons_zero, List.set_cons_succ]
    refine ht_done (by kernel_rfl) rfl ?_
    clear hHeld
    obtain ⟨T2, hT2⟩ : ∃ T', T' = (T.setCell ⟨gM, 2, none⟩ (.string p0.inner)).drew := ⟨_, rfl⟩
    have hE2 := (HE.out.putM 2 (.string p0.inner)).drew
    rw [← hT2] at hE2
    have hM2 : Rd T2 (mapsD (p0 :: ⟨p0.inner, p1.outer⟩ :: r)) _ := maps_own (by exact hE2.oM) rfl
    have hRC := cal_calls HO.out HW.out hE2 hM2 HK1.out
    have HB9 := Lib.hid (gr_end HO.out.bel hE2.gr HO.out.ge HO.out.bel.size)
    have d0 : T2.cell? ⟨gd, 0, none⟩ = some (.slice A3 4 c3) := hE2.box.cell 0
    have d1 : T2.cell? ⟨gd, 1, none⟩ = some (.slice (some ⟨gb, 0, none⟩) 2 2) := hE2.box.cell 1
    have lg2 := hE2.box.lt
    have HRC := Lib.hid hRC
    have HT2 := Lib.hid hT2.symm
    clear hRC hE2 hT2 hM2
    go_upto_region 15 with fail
    rw [HT2.out]
    clear HT2 t7 ft7 u0 u1 u2 u3 td0 td1
    go_wp2_with fail
    refine (HRC.out T2 (Below.refl _ _)).mono ?_
    rintro e w7 ⟨rfl, hb7⟩
    go_wp2_with fail
    refine (awake_any _).mono ?_
    rintro e w8 ⟨rfl, hb8⟩
    have h28 := hb7.trans (hb8.mono hb7.size)
    have HFI := Lib.hid (HB9.out.trans (h28.mono HB9.out.size))
    clear hb7 hb8 h28
    go_wp2_with fail
    go_ret
    exact ⟨rfl, HFI.out⟩
  · go_upto_region 14 with fail
    have HY_wc := Lib.hid (fun (U : World) (hSw : (fun U => Below T.heap.size T U) U) => And.intro (show U.cell? ⟨gI, l.length * 10 + 7, none⟩ = some (.slice (some ⟨gM, 0, none⟩) (r.length + 2) kM) from (hSw.cell (p := ⟨gI, l.length * 10 + 7, none⟩) lgIT).trans t7) (And.intro (show U.cell? ⟨gM, 0, none⟩ = some (.string p0.inner) from (hSw.cell (p := ⟨gM, 0, none⟩) lgMT).trans u0) ((show U.cell? ⟨gM, 1, none⟩ = some (.string p0.outer) from (hSw.cell (p := ⟨gM, 1, none⟩) lgMT).trans u1))))
    refine wp_region_HT 13 (fun U => Below T.heap.size T U) (by kernel_rfl) (by decide) ((Below.refl _ _).drew) (fun hHeld => ?_)
    refine ht_take 0 (v := ?vwc_1) rfl (by kernel_rfl) (fun _ _ _ h => h) (Or.inl ⟨by rfl, ?hwc_1⟩) hHeld ?rwc_1
    case hwc_1 => ((intro U hSw; obtain ⟨x7, m0, m1⟩ := HY_wc.out U hSw; go_simp); (try (with_reducible rfl)))
    try simp only [Act.put, List.setIfInBounds_toArray, List.set_cons_zero, List.set_cons_succ]
    refine ht_take 1 (v := ?vwc_2) rfl (by kernel_rfl) (fun _ _ _ h => h) (Or.inl ⟨by rfl, ?hwc_2⟩) hHeld ?rwc_2
    case hwc_2 => ((intro U hSw; obtain ⟨x7, m0, m1⟩ := HY_wc.out U hSw; go_simp); (try (with_reducible rfl)))
    try simp only [Act.put, List.setIfInBounds_toArray, List.set_cons_zero, List.set_cons_succ]
    refine ht_take 2 (v := ?vwc_3) rfl (by kernel_rfl) (fun _ _ _ h => h) (Or.inl ⟨by rfl, ?hwc_3⟩) hHeld ?rwc_3
    case hwc_3 => ((intro U hSw; obtain ⟨x7, m0, m1⟩ := HY_wc.out U hSw; go_simp); (try (with_reducible rfl)))
    try simp only [Act.put, List.setIfInBounds_toArray, List.set_cons_zero, List.set_cons_succ]
    refine ht_take 3 (v := ?vwc_4) rfl (by kernel_rfl) (fun _ _ _ h => h) (Or.inl ⟨by rfl, ?hwc_4⟩) hHeld ?rwc_4
    case hwc_4 => ((intro U hSw; obtain ⟨x7, m0, m1⟩ := HY_wc.out U hSw; go_simp); (try (with_reducible rfl)))
    try simp only [Act.put, List.setIfInBounds_toArray, List.set_cons_zero, List.set_cons_succ]
    refine ht_take 4 (v := ?vwc_5) rfl (by kernel_rfl) (fun _ _ _ h => h) (Or.inl ⟨by rfl, ?hwc_5⟩) hHeld ?rwc_5
    case hwc_5 => ((intro U hSw; obtain ⟨x7, m0, m1⟩ := HY_wc.out U hSw; go_simp); (try (with_reducible rfl)))
    try simp only [Act.put, List.setIfInBounds_toArray, List.set_cons_zero, List.set_cons_succ]
    refine ht_take 5 (v := ?vwc_6) rfl (by kernel_rfl) (fun _ _ _ h => h) (Or.inl ⟨by rfl, ?hwc_6⟩) hHeld ?rwc_6
    case hwc_6 => ((intro U hSw; obtain ⟨x7, m0, m1⟩ := HY_wc.out U hSw; go_simp); (try (with_reducible rfl)))
    try simp only [Act.put, List.setIfInBounds_toArray, List.set_cons_zero, List.set_cons_succ]
    refine ht_take 6 (v := ?vwc_7) rfl (by kernel_rfl) (fun _ _ _ h => h) (Or.inl ⟨by rfl, ?hwc_7⟩) hHeld ?rwc_7
    case hwc_7 => ((intro U hSw; obtain ⟨x7, m0, m1⟩ := HY_wc.out U hSw; go_simp); (try (with_reducible rfl)))
    try simp only [Act.put, List.setIfInBounds_toArray, List.set_cons_zero, List.set_cons_succ]
    refine ht_take 7 (v := ?vwc_8) rfl (by kernel_rfl) (fun _ _ _ h => h) (Or.inl ⟨by rfl, ?hwc_8⟩) hHeld ?rwc_8
    case hwc_8 => ((intro U hSw; obtain ⟨x7, m0, m1⟩ := HY_wc.out U hSw; go_simp); (try (with_reducible rfl)))
    try simp only [Act.put, List.setIfInBounds_toArray, List.set_cons_zero, List.set_cons_succ]
    refine ht_take 8 (v := ?vwc_9) rfl (by kernel_rfl) (fun _ _ _ h => h) (Or.inl ⟨by rfl, ?hwc_9⟩) hHeld ?rwc_9
    case hwc_9 => ((intro U hSw; obtain ⟨x7, m0, m1⟩ := HY_wc.out U hSw; go_simp); (try (with_reducible rfl)))
    try simp only [Act.put, List.setIfInBounds_toArray, List.set_cons_zero, List.set_cons_succ]
    refine ht_take 9 (v := ?vwc_10) rfl (by kernel_rfl) (fun _ _ _ h => h) (Or.inl ⟨by rfl, ?hwc_10⟩) hHeld ?rwc_10
    case hwc_10 => ((intro U hSw; obtain ⟨x7, m0, m1⟩ := HY_wc.out U hSw; go_simp); (try (with_reducible rfl)))
    try simp only [Act.put, List.setIfInBounds_toArray, List.set_cons_zero, List.set_cons_succ]
    refine ht_take 10 (v := ?vwc_11) rfl (by kernel_rfl) (fun _ _ _ h => h) (Or.inl ⟨by rfl, ?hwc_11⟩) hHeld ?rwc_11
    case hwc_11 => ((intro U hSw; obtain ⟨x7, m0, m1⟩ := HY_wc.out U hSw; go_simp); (try (with_reducible rfl)))
    try simp only [Act.put, List.setIfInBounds_toArray, List.set_cons_zero, List.set_cons_succ]
    refine ht_take 11 (v := ?vwc_12) rfl (by kernel_rfl) (fun _ _ _ h => h) (Or.inl ⟨by rfl, ?hwc_12⟩) hHeld ?rwc_12
    case hwc_12 => ((intro U hSw; obtain ⟨x7, m0, m1⟩ := HY_wc.out U hSw; go_simp); (try (with_reducible rfl)))
    try simp only [Act.put, List.setIfInBounds_toArray, List.set_cons_zero, List.set_cons_succ]
    refine ht_take 12 (v := ?vwc_13) rfl (by kernel_rfl) (fun _ _ _ h => h) (Or.inl ⟨by rfl, ?hwc_13⟩) hHeld ?rwc_13
    case hwc_13 => ((intro U hSw; obtain ⟨x7, m0, m1⟩ := HY_wc.out U hSw; go_simp); (try (with_reducible rfl)))
    try simp only [Act.put, List.setIfInBounds_toArray, List.set_cons_zero, List.set_cons_succ]
    refine ht_done (by kernel_rfl) rfl ?_
    clear hHeld
    obtain ⟨T2, hT2⟩ : ∃ T', T' = (T.setCell ⟨gM, 3, none⟩ (.string p0.outer)).drew := ⟨_, rfl⟩
    have hE2 := (HE.out.putM 3 (.string p0.outer)).drew
    rw [← hT2] at hE2
    have hM2 : Rd T2 (mapsD (p0 :: ⟨p1.inner, p0.outer⟩ :: r)) _ := maps_own (by exact hE2.oM) rfl
    have hRC := cal_calls HO.out HW.out hE2 hM2 HK2.out
    have HB9 := Lib.hid (gr_end HO.out.bel hE2.gr HO.out.ge HO.out.bel.size)
    have d0 : T2.cell? ⟨gd, 0, none⟩ = some (.slice A3 4 c3) := hE2.box.cell 0
    have d1 : T2.cell? ⟨gd, 1, none⟩ = some (.slice (some ⟨gb, 0, none⟩) 2 2) := hE2.box.cell 1
    have lg2 := hE2.box.lt
    have HRC := Lib.hid hRC
    have HT2 := Lib.hid hT2.symm
    clear hRC hE2 hT2 hM2
    go_upto_region 15 with fail
    rw [HT2.out]
    clear HT2 t7 ft7 u0 u1 u2 u3 td0 td1
    go_wp2_with fail
    refine (HRC.out T2 (Below.refl _ _)).mono ?_
    rintro e w7 ⟨rfl, hb7⟩
    go_wp2_with fail
    refine (awake_any _).mono ?_
    rintro e w8 ⟨rfl, hb8⟩
    have h28 := hb7.trans (hb8.mono hb7.size)
    have HFI := Lib.hid (HB9.out.trans (h28.mono HB9.out.size))
    clear hb7 hb8 h28
    go_wp2_with fail
    go_ret
    exact ⟨rfl, HFI.out⟩
  · obtain ⟨T2, hT2⟩ : ∃ T', T' = T := ⟨_, rfl⟩
    have hE2 := HE.out
    rw [← hT2] at hE2
    have hM2 : Rd T2 (mapsD (p0 :: p1 :: r)) _ := maps_own hE2.oM rfl
    have hRC := cal_calls HO.out HW.out hE2 hM2 HK3.out
    have HB9 := Lib.hid (gr_end HO.out.bel hE2.gr HO.out.ge HO.out.bel.size)
    have d0 : T2.cell? ⟨gd, 0, none⟩ = some (.slice A3 4 c3) := hE2.box.cell 0
    have d1 : T2.cell? ⟨gd, 1, none⟩ = some (.slice (some ⟨gb, 0, none⟩) 2 2) := hE2.box.cell 1
    have lg2 := hE2.box.lt
    have HRC := Lib.hid hRC
    have HT2 := Lib.hid hT2.symm
    clear hRC hE2 hT2 hM2
    go_upto_region 7 with fail
    rw [HT2.out]
    clear HT2 t7 ft7 u0 u1 u2 u3 td0 td1
    go_wp2_with fail
    refine (HRC.out T2 (Below.refl _ _)).mono ?_
    rintro e w7 ⟨rfl, hb7⟩
    go_wp2_with fail
    refine (awake_any _).mono ?_
    rintro e w8 ⟨rfl, hb8⟩
    have h28 := hb7.trans (hb8.mono hb7.size)
    have HFI := Lib.hid (HB9.out.trans (h28.mono HB9.out.size))
    clear hb7 hb8 h28
    go_wp2_with fail
    go_ret
    exact ⟨rfl, HFI.out⟩
end Go.Proofs.Ytljmghaplnkohaa
