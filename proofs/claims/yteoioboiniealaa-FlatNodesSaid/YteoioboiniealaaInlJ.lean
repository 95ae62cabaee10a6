/- The contract of inline.Chor. -/
import Derived.Test.YteoioboiniealaaInlH
import Derived.Test.YteoioboiniealaaInlI
namespace Go.Proofs.Yteoioboiniealaa
open Go.RowKit
attribute [local go_sem ↓] Go.wp_at_zero Go.wp_at_succ

theorem items_all (d : DocD) (hd : ∀ c ∈ d.chors, SmallC c) : ∀ f, ItemsOK d f
  | 0 => fun _ _ _ _ _ _ _ _ _ _ _ _ _ _ _ _ _ _ _ _ _ hF => by unfold itemsF at hF; cases hF
  | f + 1 => items_ok d f (items_all d hd f) (call_ok d hd f (items_all d hd f))
mutual
/-- No slice of choreographies within. -/
def Dat.fc : Dat → Prop
  | .sl e _ _ cs => e ≠ 28 ∧ fcL cs
  | .int _ => True
  | .str _ => True
  | .bool _ => True
def fcL : List Dat → Prop
  | [] => True
  | d :: ds => Dat.fc d ∧ fcL ds
end
mutual
theorem Rd.fc_ {w w1 : World} {g : Nat} {cs : Array Value} (hg : w.grownBy w1 (some g)) (hb : Blk w g 28 cs) : ∀ (d : Dat) (v : Value), Dat.fc d → Rd w d v → Rd w1 d v
  | .int _, _, _, h => by unfold Rd at *; exact h
  | .str _, _, _, h => by unfold Rd at *; exact h
  | .bool _, _, _, h => by unfold Rd at *; exact h
  | .sl e sz n ds, v, hf, h => by
    unfold Dat.fc at hf
    unfold Rd at *
    obtain ⟨A, c, xs, hv, ho, hl⟩ := h
    exact ⟨A, c, xs, hv, ho.kept hg (.inr (blk_own_ne ho hb hf.1)), RdL.fc_ hg hb ds xs hf.2 hl⟩
theorem RdL.fc_ {w w1 : World} {g : Nat} {cs : Array Value} (hg : w.grownBy w1 (some g)) (hb : Blk w g 28 cs) : ∀ (ds : List Dat) (xs : List Value), fcL ds → RdL w ds xs → RdL w1 ds xs
  | [], _, _, h => by unfold RdL at *; exact h
  | d :: ds, _, hf, h => by
    unfold fcL at hf
    unfold RdL at *
    obtain ⟨v, r, hx, hd, hl⟩ := h
    exact ⟨v, r, hx, Rd.fc_ hg hb d v hf.1 hd, RdL.fc_ hg hb ds r hf.2 hl⟩
end
theorem fcL_append : ∀ {a b : List Dat}, fcL a → fcL b → fcL (a ++ b)
  | [], _, _, h => h
  | d :: a, b, h, k => by
    unfold fcL at h
    show fcL (d :: (a ++ b))
    unfold fcL
    exact ⟨h.1, fcL_append h.2 k⟩
theorem fc_sl {e sz n : Nat} {cs : List Dat} (h1 : e ≠ 28) (h : fcL cs) : Dat.fc (.sl e sz n cs) := by
  unfold Dat.fc; exact ⟨h1, h⟩
theorem fc_flat {α : Type} {f : α → List Dat} (h : ∀ x, fcL (f x)) : ∀ l : List α, fcL (l.flatMap f)
  | [] => by unfold fcL; trivial
  | x :: l => by rw [List.flatMap_cons]; exact fcL_append (h x) (fc_flat h l)
theorem fc_strs (l : List ByteArray) : Dat.fc (strsD l) := fc_sl (by decide) (fc_flat (fun x => by unfold strC; simp [fcL, Dat.fc]) l)
theorem fc_maps (l : List MapD) : Dat.fc (mapsD l) := fc_sl (by decide) (fc_flat (fun x => by unfold mapC; simp [fcL, Dat.fc]) l)
theorem fc_seqs (l : List SeqD) : Dat.fc (seqsD l) := fc_sl (by decide) (fc_flat (fun x => by unfold seqC; simp [fcL, Dat.fc]) l)
theorem fc_parts (l : List PartD) : Dat.fc (partsD l) := fc_sl (by decide) (fc_flat (fun x => by unfold partC; simp [fcL, Dat.fc]) l)
mutual
theorem fc_item : ∀ x : ItemD, fcL (itemC x)
  | ⟨kind, id, first, parts, flows, loop, called, maps, items, seqs⟩ => by
    rw [itemC]
    have h1 := fc_strs parts
    have h2 := fc_strs flows
    have h3 := fc_maps maps
    have h4 : Dat.fc (.sl 33 10 items.length (itemsC items)) := fc_sl (by decide) (fc_itemL items)
    have h5 := fc_seqs seqs
    simp only [fcL, Dat.fc, and_true, true_and] at *
    exact ⟨h1, h2, h3, h4, h5⟩
theorem fc_itemL : ∀ l : List ItemD, fcL (itemsC l)
  | [] => by rw [itemsC]; unfold fcL; trivial
  | x :: l => by rw [itemsC]; exact fcL_append (fc_item x) (fc_itemL l)
end
theorem fc_items (l : List ItemD) : Dat.fc (itemsD l) := by
  unfold itemsD datS
  rw [← itemsC_flat]
  exact fc_sl (by decide) (fc_itemL l)

theorem fc_flows (l : List FlowD) : Dat.fc (flowsD l) := fc_sl (by decide) (fc_flat (fun x => by unfold flowC; simp [fcL, Dat.fc]) l)
theorem ChorV.fc_ {w w1 : World} {g : Nat} {cs : Array Value} {c : ChorD} {vP vF vI vS : Value} (hg : w.grownBy w1 (some g)) (hb : Blk w g 28 cs) (h : ChorV w c vP vF vI vS) : ChorV w1 c vP vF vI vS :=
  ⟨Rd.fc_ hg hb _ _ (fc_parts _) h.1, Rd.fc_ hg hb _ _ (fc_flows _) h.2.1, Rd.fc_ hg hb _ _ (fc_items _) h.2.2.1, Rd.fc_ hg hb _ _ (fc_seqs _) h.2.2.2⟩
theorem flowV_of {w : World} : ∀ {l : List FlowD} {xs : List Value}, RdL w (l.flatMap flowC) xs → xs = l.flatMap flowV
  | [], xs, h => rdl_nil.1 h
  | x :: l, xs, h => by
    rw [List.flatMap_cons] at h
    obtain ⟨a, b, rfl, ha, hb⟩ := h.split
    rw [rd_flowC ha, flowV_of hb, List.flatMap_cons]
    rfl
theorem rdl_flowV {w : World} : ∀ l : List FlowD, RdL w (l.flatMap flowC) (l.flatMap flowV)
  | [] => rdl_nil.2 rfl
  | x :: l => by
    rw [List.flatMap_cons, List.flatMap_cons]
    refine RdL.append ?_ (rdl_flowV l)
    exact rdl_cons.2 ⟨_, _, rfl, rd_str.2 rfl, rdl_cons.2 ⟨_, _, rfl, rd_str.2 rfl, rdl_cons.2 ⟨_, _, rfl, rd_str.2 rfl, rdl_cons.2 ⟨_, _, rfl, rd_str.2 rfl, rdl_nil.2 rfl⟩⟩⟩⟩
theorem Cloned.rd_own {α : Type} {w w' : World} {base e sz k : Nat} {f : α → List Dat} {l : List α} {A : Option Addr} {xs : List Value} (ho : w'.ownsRow base e sz (.slice A l.length k) l.length xs) (hl : RdL w (l.flatMap f) xs) (hb : Below w.heap.size w w') : Rd w' (datS e sz f l) (.slice A l.length k) :=
  rd_sl.2 ⟨A, k, xs, rfl, own_mono ho (by omega), RdL.below hb _ _ hl⟩
def InlEnd (w : World) (c : ChorD) (e : Int) (r : Ending) (w' : World) : Prop :=
  ∃ vP vF vI vS, r = .returned (.tuple #[.agg #[.string c.id, vP, vF, vI, vS], .int .i64 e]) ∧ ChorV w' c vP vF vI vS ∧ Below w.heap.size w w'
theorem chorV_nil {w : World} : ChorV w ⟨⟨#[]⟩, [], [], [], []⟩ (.slice none 0 0) (.slice none 0 0) (.slice none 0 0) (.slice none 0 0) :=
  ⟨rd_sl.2 ⟨none, 0, [], rfl, World.ownsRow_nil _ _ _ _, rdl_nil.2 rfl⟩, rd_sl.2 ⟨none, 0, [], rfl, World.ownsRow_nil _ _ _ _, rdl_nil.2 rfl⟩, rd_sl.2 ⟨none, 0, [], rfl, World.ownsRow_nil _ _ _ _, rdl_nil.2 rfl⟩, rd_sl.2 ⟨none, 0, [], rfl, World.ownsRow_nil _ _ _ _, rdl_nil.2 rfl⟩⟩
theorem ret_chor {W : World} {g : Nat} {v0 v1 v2 v3 v4 x : Value} {tmps : Array Value} (h : Blk W g 28 #[v0, v1, v2, v3, v4]) (ht : tmps.getD 4 undef = .pointer (some ⟨g, 0, none⟩)) (hx : tmps.getD 5 undef = x) :
    (results Try.f17 tmps).run Try.prog W = .ok (.tuple #[.agg #[v0, v1, v2, v3, v4], x]) W := by
  have x0 : W.cell? ⟨g, 0, none⟩ = some v0 := h.cell 0
  have x1 : W.cell? ⟨g, 1, none⟩ = some v1 := h.cell 1
  have x2 : W.cell? ⟨g, 2, none⟩ = some v2 := h.cell 2
  have x3 : W.cell? ⟨g, 3, none⟩ = some v3 := h.cell 3
  have x4 : W.cell? ⟨g, 4, none⟩ = some v4 := h.cell 4
  simp [results, Try.results17, go_sem, ht, hx, x0, x1, x2, x3, x4, -Array.getD_eq_getD_getElem?]

set_option maxRecDepth 100000 in
set_option maxHeartbeats 8000000 in
theorem chor_walk (d : DocD) (f : Nat) (hI : ItemsOK d f) (id : ByteArray) {w : World} {vM vC : Value} (hM : Rd w (msgsD d.msgs) vM) (hC : Rd w (chorsD d.chors) vC) (cc : ChorD) (e : Int) (hF : chorF d f id = some (cc, e))
    (hd : ∀ c ∈ d.chors, SmallC c) (hpl : ∀ c ∈ d.chors, c.parts.length ≤ 1000000) (hf : f ≤ 400)
    (hb : ∀ c0 ∈ d.chors, ∀ its s, itemsF d f ⟨#[]⟩ [] [id] c0.items ⟨c0.flows, 0, 0⟩ = some (its, s) → s.n ≤ 1000000 ∧ s.flows.length ≤ 1000000) :
    Calls Try.prog 17 #[.agg #[vM, vC], .string id] w (InlEnd w cc e) := by
  obtain ⟨AM, cM, _, rfl, _, _⟩ := rd_sl.1 hM
  obtain ⟨AC, cC, rfl, hlc, hcm, hatC⟩ := rd_at chorC_len hC
  unfold maxLen at hcm
  have HATC := Lib.hid hatC
  have HC := Lib.hid hC
  have HF := Lib.hid hF
  have HI := Lib.hid hI
  have HBD := Lib.hid hb
  clear hatC hC hF hI hb hM
  obtain ⟨k, hk⟩ : ∃ k, k = findFrom (fun c : ChorD => eqS c.id id) d.chors 0 := ⟨_, rfl⟩
  have hids := fun V (h : Below w.heap.size w V) => idsChor_any (vM := .slice AM d.msgs.length cM) id (Rd.below h _ _ HC.out)
  rw [← hk] at hids
  have HK := Lib.hid hk
  have HIDS := Lib.hid hids
  clear hk hids
  go_enter Try.func17, Try.ntmps17
  go_wp2_with fail
  refine (HIDS.out _ (((Below.refl _ _).alloc (Nat.le_refl _) _).alloc (by simp) _)).mono ?_
  rintro e1 w1 ⟨rfl, hb1⟩
  have hbw : Below w.heap.size w w1 := (((Below.refl _ _).alloc (Nat.le_refl _) _).alloc (by simp) _).trans (hb1.mono (by simp; omega))
  have hD : Blk w1 w.heap.size 61 #[.slice AM d.msgs.length cM, .slice AC d.chors.length cC] := ((Blk.new w _ _).alloc _).below hb1 (by simp; omega)
  have hR : Blk w1 (w.heap.size + 1) 28 #[.string ⟨#[]⟩, .slice none 0 0, .slice none 0 0, .slice none 0 0, .slice none 0 0] := by
    have := (Blk.new (w.alloc (.cells #[.slice AM d.msgs.length cM, .slice AC d.chors.length cC] 61)) 28 #[.string ⟨#[]⟩, .slice none 0 0, .slice none 0 0, .slice none 0 0, .slice none 0 0]).below hb1 (by simp)
    simpa using this
  have HBW := Lib.hid hbw
  have HD := Lib.hid hD
  have HR := Lib.hid hR
  have hszw := hbw.size
  have hgl := hR.lt
  clear hbw hb1 hD hR
  by_cases hk0 : k < 0
  · have hF := HF.out
    unfold chorF at hF
    simp only at hF
    rw [← HK.out, if_pos hk0] at hF
    injection hF with hF
    injection hF with hc he
    have HCC := Lib.hid hc
    have HEE := Lib.hid he
    clear hc he
    have z0 : w1.cell? ⟨w.heap.size + 1, 0, none⟩ = some (.string ⟨#[]⟩) := HR.out.cell 0
    have z1 : w1.cell? ⟨w.heap.size + 1, 1, none⟩ = some (.slice none 0 0) := HR.out.cell 1
    have z2 : w1.cell? ⟨w.heap.size + 1, 2, none⟩ = some (.slice none 0 0) := HR.out.cell 2
    have z3 : w1.cell? ⟨w.heap.size + 1, 3, none⟩ = some (.slice none 0 0) := HR.out.cell 3
    have z4 : w1.cell? ⟨w.heap.size + 1, 4, none⟩ = some (.slice none 0 0) := HR.out.cell 4
    have q0 : w1.frozen? ⟨w.heap.size + 1, 0, none⟩ = false := HR.out.frozen 0
    have q1 : w1.frozen? ⟨w.heap.size + 1, 1, none⟩ = false := HR.out.frozen 1
    have q2 : w1.frozen? ⟨w.heap.size + 1, 2, none⟩ = false := HR.out.frozen 2
    have q3 : w1.frozen? ⟨w.heap.size + 1, 3, none⟩ = false := HR.out.frozen 3
    have q4 : w1.frozen? ⟨w.heap.size + 1, 4, none⟩ = false := HR.out.frozen 4
    go_wp2_with fail
    have hb3 := setAll_blk (vs := [.string ⟨#[]⟩, .slice none 0 0, .slice none 0 0, .slice none 0 0, .slice none 0 0]) 0 w1 _ HR.out rfl
    have hg := setAll_grown (g := w.heap.size + 1) [.string ⟨#[]⟩, .slice none 0 0, .slice none 0 0, .slice none 0 0, .slice none 0 0] w1
    have hend : InlEnd w cc e (.returned (.tuple #[.agg #[.string ⟨#[]⟩, .slice none 0 0, .slice none 0 0, .slice none 0 0, .slice none 0 0], .int .i64 6])) (setAll w1 (w.heap.size + 1) 0 [.string ⟨#[]⟩, .slice none 0 0, .slice none 0 0, .slice none 0 0, .slice none 0 0]) := by
      rw [← HCC.out, ← HEE.out]
      exact ⟨_, _, _, _, rfl, chorV_nil, HBW.out.grown hg (by omega) (fun k hk => by injection hk with hk; omega)⟩
    exact bodyPost_ret (ret_chor hb3 rfl rfl) rfl hend
  · obtain ⟨i, hi, hki⟩ : ∃ i, i < d.chors.length ∧ k = (i : Int) := by
      have hk := HK.out
      rw [hk] at hk0 ⊢
      obtain ⟨i, hi, he⟩ := findFrom_in _ _ _ hk0
      exact ⟨i, hi, by rw [he]; congr 1; omega⟩
    subst hki
    clear hk0
    obtain ⟨b, vs, rfl, hbl, _, hvs, hcell⟩ := HATC.out i hi
    obtain ⟨c, hcd⟩ : ∃ c, c = d.chors[i] := ⟨_, rfl⟩
    have hmem : c ∈ d.chors := by rw [hcd]; exact List.getElem_mem hi
    have hsm := hd c hmem
    have hnp := hpl c hmem
    obtain ⟨its, s2, hit, hfin⟩ : ∃ its s2, itemsF d f ⟨#[]⟩ [] [id] c.items ⟨c.flows, 0, 0⟩ = some (its, s2) ∧ (if s2.e ≠ 0 then cc = ⟨⟨#[]⟩, [], [], [], []⟩ ∧ e = s2.e else cc = ⟨c.id, c.parts, s2.flows, its, c.seqs⟩ ∧ e = 0) := by
      have hF := HF.out
      unfold chorF at hF
      simp only at hF
      rw [← HK.out, if_neg (by omega), Int.toNat_natCast, List.getElem?_eq_getElem hi, ← hcd] at hF
      simp only at hF
      revert hF
      rcases itemsF d f ⟨#[]⟩ [] [id] c.items ⟨c.flows, 0, 0⟩ with _ | ⟨its, s2⟩
      · intro h; cases h
      · intro h
        refine ⟨its, s2, rfl, ?_⟩
        simp only at h
        split at h
        · rename_i he
          injection h with h
          injection h with h1 h2
          rw [if_pos he]
          exact ⟨h1.symm, h2.symm⟩
        · rename_i he
          injection h with h
          injection h with h1 h2
          rw [if_neg he]
          exact ⟨h1.symm, h2.symm⟩
    obtain ⟨hbn, hbf⟩ := HBD.out c hmem its s2 hit
    rw [← hcd] at hvs
    obtain ⟨vP', vF', vI', vS', rfl, hPc, hFc, hIc, hSc⟩ := rd_chorC.1 hvs
    have HPC := Lib.hid hPc
    have HFC := Lib.hid hFc
    have HIC := Lib.hid hIc
    have HSC := Lib.hid hSc
    obtain ⟨AP', cP', xP', rfl, _, _⟩ := rd_sl.1 hPc
    obtain ⟨AF', cF', xF', rfl, _, _⟩ := rd_sl.1 hFc
    obtain ⟨AI', cI', xI', rfl, _, _⟩ := rd_sl.1 hIc
    obtain ⟨AS', cS', xS', rfl, _, _⟩ := rd_sl.1 hSc
    have e0 : w1.cell? ⟨b, i * 5, none⟩ = some (.string c.id) := (HBW.out.cell (p := ⟨b, i * 5, none⟩) hbl).trans (hcell 0 (by omega))
    have e1 : w1.cell? ⟨b, i * 5 + 1, none⟩ = some (.slice AP' c.parts.length cP') := (HBW.out.cell (p := ⟨b, i * 5 + 1, none⟩) hbl).trans (hcell 1 (by omega))
    have e2 : w1.cell? ⟨b, i * 5 + 2, none⟩ = some (.slice AF' c.flows.length cF') := (HBW.out.cell (p := ⟨b, i * 5 + 2, none⟩) hbl).trans (hcell 2 (by omega))
    have e3 : w1.cell? ⟨b, i * 5 + 3, none⟩ = some (.slice AI' c.items.length cI') := (HBW.out.cell (p := ⟨b, i * 5 + 3, none⟩) hbl).trans (hcell 3 (by omega))
    have e4 : w1.cell? ⟨b, i * 5 + 4, none⟩ = some (.slice AS' c.seqs.length cS') := (HBW.out.cell (p := ⟨b, i * 5 + 4, none⟩) hbl).trans (hcell 4 (by omega))
    have d1 : w1.cell? ⟨w.heap.size, 1, none⟩ = some (.slice (some ⟨b, 0, none⟩) d.chors.length cC) := HD.out.cell 1
    have HIT := Lib.hid hit
    have HFIN := Lib.hid hfin
    have HSM := Lib.hid hsm
    have hnf := hsm.flows
    have hni := hsm.nitems
    have hns := hsm.nseqs
    clear hvs hcell hcd hit hfin hsm hPc hFc hIc hSc hmem
    go_upto_region 5 with fail
    obtain ⟨V1, hV1⟩ : ∃ V, V = w1.alloc (.cells #[.string c.id, .slice AP' c.parts.length cP', .slice AF' c.flows.length cF', .slice AI' c.items.length cI', .slice AS' c.seqs.length cS'] 28) := ⟨_, rfl⟩
    have hbV : Below w1.heap.size w1 V1 := by rw [hV1]; exact (Below.refl _ _).alloc (Nat.le_refl _) _
    have hB7 : Blk V1 w1.heap.size 28 #[.string c.id, .slice AP' c.parts.length cP', .slice AF' c.flows.length cF', .slice AI' c.items.length cI', .slice AS' c.seqs.length cS'] := by rw [hV1]; exact Blk.new _ _ _
    rw [← hV1]
    have HBV := Lib.hid (HBW.out.trans (hbV.mono hszw))
    have HD2 := Lib.hid (HD.out.below hbV HD.out.lt)
    have HR2 := Lib.hid (HR.out.below hbV HR.out.lt)
    have HB7 := Lib.hid hB7
    have hszV := hbV.size
    have hg7 : w1.heap.size < V1.heap.size := hB7.lt
    generalize hgg : w1.heap.size = g7 at *
    clear hV1 hbV hB7 hgg d1 e0 e1 e2 e3 e4 HD HR HBW
    go_cut [8] (fun v8 wx => ∃ m, v8 = .pointer (some ⟨m, 0, none⟩) ∧ Below V1.heap.size V1 wx ∧ V1.heap.size ≤ m ∧ MkSt wx m w.heap.size (.slice AM d.msgs.length cM) (.slice (some ⟨b, 0, none⟩) d.chors.length cC) ⟨c.flows, 0, 0⟩)
    case first =>
      refine wp_region_HT 6 (fun V => Blk V w.heap.size 61 #[.slice AM d.msgs.length cM, .slice (some ⟨b, 0, none⟩) d.chors.length cC] ∧ Blk V g7 28 #[.string c.id, .slice AP' c.parts.length cP', .slice AF' c.flows.length cF', .slice AI' c.items.length cI', .slice AS' c.seqs.length cS']) (by kernel_rfl) (by decide) (⟨HD2.out, HB7.out⟩) (fun hHeld => ?_)
      refine ht_take 0 (v := ?vj_1) rfl (by kernel_rfl) (fun _ _ _ h => h) (Or.inl ⟨by rfl, ?hj_1⟩) hHeld ?rj_1
      case hj_1 => ((intro W hSw; have y0 : W.cell? ⟨w.heap.size, 0, none⟩ = some (.slice AM d.msgs.length cM) := hSw.1.cell 0; have y1 : W.cell? ⟨w.heap.size, 1, none⟩ = some (.slice (some ⟨b, 0, none⟩) d.chors.length cC) := hSw.1.cell 1; have y2 : W.cell? ⟨g7, 2, none⟩ = some (.slice AF' c.flows.length cF') := hSw.2.cell 2; go_simp); (try (with_reducible rfl)))
      try simp only [Act.put, List.setIfInBounds_toArray, List.set_cons_zero, List.set_cons_succ]
      refine ht_take 1 (v := ?vj_2) rfl (by kernel_rfl) (fun _ _ _ h => h) (Or.inl ⟨by rfl, ?hj_2⟩) hHeld ?rj_2
      case hj_2 => ((intro W hSw; have y0 : W.cell? ⟨w.heap.size, 0, none⟩ = some (.slice AM d.msgs.length cM) := hSw.1.cell 0; have y1 : W.cell? ⟨w.heap.size, 1, none⟩ = some (.slice (some ⟨b, 0, none⟩) d.chors.length cC) := hSw.1.cell 1; have y2 : W.cell? ⟨g7, 2, none⟩ = some (.slice AF' c.flows.length cF') := hSw.2.cell 2; go_simp); (try (with_reducible rfl)))
      try simp only [Act.put, List.setIfInBounds_toArray, List.set_cons_zero, List.set_cons_succ]
      refine ht_take 2 (v := ?vj_3) rfl (by kernel_rfl) (fun _ _ _ h => h) (Or.inl ⟨by rfl, ?hj_3⟩) hHeld ?rj_3
      case hj_3 => ((intro W hSw; have y0 : W.cell? ⟨w.heap.size, 0, none⟩ = some (.slice AM d.msgs.length cM) := hSw.1.cell 0; have y1 : W.cell? ⟨w.heap.size, 1, none⟩ = some (.slice (some ⟨b, 0, none⟩) d.chors.length cC) := hSw.1.cell 1; have y2 : W.cell? ⟨g7, 2, none⟩ = some (.slice AF' c.flows.length cF') := hSw.2.cell 2; go_simp); (try (with_reducible rfl)))
      try simp only [Act.put, List.setIfInBounds_toArray, List.set_cons_zero, List.set_cons_succ]
      refine ht_one 3 rfl (by kernel_rfl) (fun K hK => ?_)
      go_simp
      refine (cloneFlow_any (Rd.below (HBV.out.trans ((Below.refl _ _).drew.mono (by omega))) _ _ HFC.out) hnf).mono ?_
      rintro e w4 ⟨v4, xf, rfl, hof, hlf, hb4⟩
      obtain rfl := flowV_of hlf
      obtain ⟨Af, kf, rfl, _, _⟩ := own_slice hof
      go_wp2_with fail
      refine hK.out _ _ (⟨hHeld.1.below hb4 hHeld.1.lt, hHeld.2.below hb4 hHeld.2.lt⟩) (fun hHeld => ?_)
      clear hK K
      try simp only [Act.put, List.setIfInBounds_toArray, List.set_cons_zero, List.set_cons_succ]
      refine ht_take 4 (v := ?vj_4) rfl (by kernel_rfl) (fun _ _ _ h => h) (Or.inl ⟨by rfl, ?hj_4⟩) hHeld ?rj_4
      case hj_4 => ((intro W hSw; have y0 : W.cell? ⟨w.heap.size, 0, none⟩ = some (.slice AM d.msgs.length cM) := hSw.1.cell 0; have y1 : W.cell? ⟨w.heap.size, 1, none⟩ = some (.slice (some ⟨b, 0, none⟩) d.chors.length cC) := hSw.1.cell 1; have y2 : W.cell? ⟨g7, 2, none⟩ = some (.slice AF' c.flows.length cF') := hSw.2.cell 2; go_simp); (try (with_reducible rfl)))
      try simp only [Act.put, List.setIfInBounds_toArray, List.set_cons_zero, List.set_cons_succ]
      refine ht_one 5 rfl (by kernel_rfl) (fun K hK => ?_)
      go_simp
      refine hK.out _ _ (⟨hHeld.1.alloc _, hHeld.2.alloc _⟩) (fun hHeld => ?_)
      clear hK K
      try simp only [Act.put, List.setIfInBounds_toArray, List.set_cons_zero, List.set_cons_succ]
      refine ht_done (by kernel_rfl) rfl ?_
      have hm4 : V1.heap.size ≤ w4.heap.size := hb4.size
      have hst : MkSt (w4.alloc (.cells (mkC (.slice AM d.msgs.length cM) (.slice (some ⟨b, 0, none⟩) d.chors.length cC) (.slice Af c.flows.length kf) 0 0) 108)) w4.heap.size w.heap.size (.slice AM d.msgs.length cM) (.slice (some ⟨b, 0, none⟩) d.chors.length cC) ⟨c.flows, 0, 0⟩ :=
        ⟨⟨_, Blk.new _ _ _, (own_mono hof (by show w.heap.size ≤ V1.heap.size; omega)).alloc _⟩, by omega⟩
      have hbb : Below V1.heap.size V1 (w4.alloc (.cells (mkC (.slice AM d.msgs.length cM) (.slice (some ⟨b, 0, none⟩) d.chors.length cC) (.slice Af c.flows.length kf) 0 0) 108)) := (((Below.refl _ _).drew).trans hb4).alloc hm4 _
      unfold mkC at hst hbb
      go_wp2_with fail
      go_meet
      case rel => exact ⟨_, rfl, hbb, hm4, hst⟩
    case rest =>
      obtain ⟨m, rfl, hb5, hm5, hst5⟩ := hcut
      obtain ⟨V2, rfl⟩ : ∃ V2, V2 = wc := ⟨_, rfl⟩
      have HB5 := Lib.hid hb5
      have HST5 := Lib.hid hst5
      have HB7b := Lib.hid (HB7.out.below hb5 HB7.out.lt)
      have HR3 := Lib.hid (HR2.out.below hb5 HR2.out.lt)
      have HBX := Lib.hid (HBV.out.trans (hb5.mono (by omega)))
      have hsz5 := hb5.size
      have hml := hst5.cells.choose_spec.2.2.2.2.2
      clear hb5 hst5
      go_upto_region 6 with fail
      go_cut [9] (fun v9 wx => ∃ g9 A1 k1 A4 k4, v9 = .pointer (some ⟨g9, 0, none⟩) ∧ Below V2.heap.size V2 wx ∧ V2.heap.size ≤ g9 ∧ Blk wx g9 28 #[.string c.id, .slice A1 c.parts.length k1, .slice none 0 0, .slice none 0 0, .slice A4 c.seqs.length k4] ∧ Rd wx (partsD c.parts) (.slice A1 c.parts.length k1) ∧ Rd wx (seqsD c.seqs) (.slice A4 c.seqs.length k4))
      case first =>
        have HU : Hid (∀ U, Below V2.heap.size V2 U → Rd U (partsD c.parts) (.slice AP' c.parts.length cP') ∧ Rd U (seqsD c.seqs) (.slice AS' c.seqs.length cS')) := fun U hb => ⟨Rd.below (HBX.out.trans (hb.mono (by omega))) _ _ HPC.out, Rd.below (HBX.out.trans (hb.mono (by omega))) _ _ HSC.out⟩
        refine wp_region_HT 10 (fun V => Blk V g7 28 #[.string c.id, .slice AP' c.parts.length cP', .slice AF' c.flows.length cF', .slice AI' c.items.length cI', .slice AS' c.seqs.length cS']) (by kernel_rfl) (by decide) (HB7b.out) (fun hHeld => ?_)
        refine ht_take 0 (v := ?vk_1) rfl (by kernel_rfl) (fun _ _ _ h => h) (Or.inl ⟨by rfl, ?hk_1⟩) hHeld ?rk_1
        case hk_1 => ((intro W hSw; have y0 : W.cell? ⟨g7, 0, none⟩ = some (.string c.id) := hSw.cell 0; have y1 : W.cell? ⟨g7, 1, none⟩ = some (.slice AP' c.parts.length cP') := hSw.cell 1; have y4 : W.cell? ⟨g7, 4, none⟩ = some (.slice AS' c.seqs.length cS') := hSw.cell 4; go_simp); (try (with_reducible rfl)))
        try simp only [Act.put, List.setIfInBounds_toArray, List.set_cons_zero, List.set_cons_succ]
        refine ht_take 1 (v := ?vk_2) rfl (by kernel_rfl) (fun _ _ _ h => h) (Or.inl ⟨by rfl, ?hk_2⟩) hHeld ?rk_2
        case hk_2 => ((intro W hSw; have y0 : W.cell? ⟨g7, 0, none⟩ = some (.string c.id) := hSw.cell 0; have y1 : W.cell? ⟨g7, 1, none⟩ = some (.slice AP' c.parts.length cP') := hSw.cell 1; have y4 : W.cell? ⟨g7, 4, none⟩ = some (.slice AS' c.seqs.length cS') := hSw.cell 4; go_simp); (try (with_reducible rfl)))
        try simp only [Act.put, List.setIfInBounds_toArray, List.set_cons_zero, List.set_cons_succ]
        refine ht_take 2 (v := ?vk_3) rfl (by kernel_rfl) (fun _ _ _ h => h) (Or.inl ⟨by rfl, ?hk_3⟩) hHeld ?rk_3
        case hk_3 => ((intro W hSw; have y0 : W.cell? ⟨g7, 0, none⟩ = some (.string c.id) := hSw.cell 0; have y1 : W.cell? ⟨g7, 1, none⟩ = some (.slice AP' c.parts.length cP') := hSw.cell 1; have y4 : W.cell? ⟨g7, 4, none⟩ = some (.slice AS' c.seqs.length cS') := hSw.cell 4; go_simp); (try (with_reducible rfl)))
        try simp only [Act.put, List.setIfInBounds_toArray, List.set_cons_zero, List.set_cons_succ]
        refine ht_take 3 (v := ?vk_4) rfl (by kernel_rfl) (fun _ _ _ h => h) (Or.inl ⟨by rfl, ?hk_4⟩) hHeld ?rk_4
        case hk_4 => ((intro W hSw; have y0 : W.cell? ⟨g7, 0, none⟩ = some (.string c.id) := hSw.cell 0; have y1 : W.cell? ⟨g7, 1, none⟩ = some (.slice AP' c.parts.length cP') := hSw.cell 1; have y4 : W.cell? ⟨g7, 4, none⟩ = some (.slice AS' c.seqs.length cS') := hSw.cell 4; go_simp); (try (with_reducible rfl)))
        try simp only [Act.put, List.setIfInBounds_toArray, List.set_cons_zero, List.set_cons_succ]
        refine ht_take 5 (v := ?vk_5) rfl (by kernel_rfl) (fun _ _ _ h => h) (Or.inl ⟨by rfl, ?hk_5⟩) hHeld ?rk_5
        case hk_5 => ((intro W hSw; have y0 : W.cell? ⟨g7, 0, none⟩ = some (.string c.id) := hSw.cell 0; have y1 : W.cell? ⟨g7, 1, none⟩ = some (.slice AP' c.parts.length cP') := hSw.cell 1; have y4 : W.cell? ⟨g7, 4, none⟩ = some (.slice AS' c.seqs.length cS') := hSw.cell 4; go_simp); (try (with_reducible rfl)))
        try simp only [Act.put, List.setIfInBounds_toArray, List.set_cons_zero, List.set_cons_succ]
        refine ht_take 6 (v := ?vk_6) rfl (by kernel_rfl) (fun _ _ _ h => h) (Or.inl ⟨by rfl, ?hk_6⟩) hHeld ?rk_6
        case hk_6 => ((intro W hSw; have y0 : W.cell? ⟨g7, 0, none⟩ = some (.string c.id) := hSw.cell 0; have y1 : W.cell? ⟨g7, 1, none⟩ = some (.slice AP' c.parts.length cP') := hSw.cell 1; have y4 : W.cell? ⟨g7, 4, none⟩ = some (.slice AS' c.seqs.length cS') := hSw.cell 4; go_simp); (try (with_reducible rfl)))
        try simp only [Act.put, List.setIfInBounds_toArray, List.set_cons_zero, List.set_cons_succ]
        refine wpHT_all [4, 9] (by kernel_rfl) ?_
        refine ht_cons (i := 4) rfl (fun K hK => ?_) (ht_cons (i := 9) rfl (fun K hK => ?_) (allHT.nil))
        · go_simp
          refine (clonePart_any (HU.out _ (by first | exact (Below.refl _ _).drew | exact ((Below.refl _ _).drew).alloc (Nat.le_refl _) _)).1 hnp).mono ?_
          rintro e w4 ⟨v4, x4, rfl, hof4, hlf4, hb4⟩
          have hbU4 : Below V2.heap.size V2 w4 := by
            first
            | exact ((Below.refl V2.heap.size V2).drew).trans hb4
            | exact (((Below.refl V2.heap.size V2).drew).alloc (Nat.le_refl _) (.cells #[.string ⟨#[]⟩, .slice none 0 0, .slice none 0 0, .slice none 0 0, .slice none 0 0] 28)).trans (hb4.mono (by simp))
          obtain ⟨A1, k1, rfl, _, _⟩ := own_slice hof4
          go_wp2_with fail
          refine hK.out _ _ (hHeld.below hb4 hHeld.lt) (fun hHeld => ?_)
          clear hK K
          try simp only [Act.put, List.setIfInBounds_toArray, List.set_cons_zero, List.set_cons_succ]
          refine wpHT_all [7, 9] (by kernel_rfl) ?_
          refine ht_cons (i := 7) rfl (fun K hK => ?_) (ht_cons (i := 9) rfl (fun K hK => ?_) (allHT.nil))
          · go_simp
            refine (cloneSeq_any (HU.out _ (by first | exact hbU4 | exact hbU4.alloc hbU4.size _)).2 hns).mono ?_
            rintro e w5 ⟨v5, x5, rfl, hof5, hlf5, hb5⟩
            obtain ⟨A4, k4, rfl, _, _⟩ := own_slice hof5
            go_wp2_with fail
            refine hK.out _ _ (hHeld.below hb5 hHeld.lt) (fun hHeld => ?_)
            clear hK K
            try simp only [Act.put, List.setIfInBounds_toArray, List.set_cons_zero, List.set_cons_succ]
            refine ht_take 8 (v := ?vk_7) rfl (by kernel_rfl) (fun _ _ _ h => h) (Or.inl ⟨by rfl, ?hk_7⟩) hHeld ?rk_7
            case hk_7 => ((intro W hSw; have y0 : W.cell? ⟨g7, 0, none⟩ = some (.string c.id) := hSw.cell 0; have y1 : W.cell? ⟨g7, 1, none⟩ = some (.slice AP' c.parts.length cP') := hSw.cell 1; have y4 : W.cell? ⟨g7, 4, none⟩ = some (.slice AS' c.seqs.length cS') := hSw.cell 4; go_simp); (try (with_reducible rfl)))
            try simp only [Act.put, List.setIfInBounds_toArray, List.set_cons_zero, List.set_cons_succ]
            refine ht_one 9 rfl (by kernel_rfl) (fun K hK => ?_)
            go_simp
            refine hK.out _ _ (hHeld.alloc _) (fun hHeld => ?_)
            clear hK K
            try simp only [Act.put, List.setIfInBounds_toArray, List.set_cons_zero, List.set_cons_succ]
            refine ht_done (by kernel_rfl) rfl ?_
            have hb25 : Below V2.heap.size V2 w5 := below_step hbU4 hb5
            have hsz5' := hb25.size
            have hbe : Below V2.heap.size V2 (w5.alloc (.cells #[.string c.id, .slice A1 c.parts.length k1, .slice none 0 0, .slice none 0 0, .slice A4 c.seqs.length k4] 28)) := hb25.alloc hsz5' _
            have hc9 := Blk.new w5 28 #[.string c.id, .slice A1 c.parts.length k1, .slice none 0 0, .slice none 0 0, .slice A4 c.seqs.length k4]
            have hp9 := Rd.below ((Below.refl _ _).alloc (Nat.le_refl _) (.cells #[.string c.id, .slice A1 c.parts.length k1, .slice none 0 0, .slice none 0 0, .slice A4 c.seqs.length k4] 28)) _ _ (Rd.below hb5 _ _ (Cloned.rd_own (f := partC) (l := c.parts) hof4 hlf4 hb4))
            have hs9 := Rd.below ((Below.refl _ _).alloc (Nat.le_refl _) (.cells #[.string c.id, .slice A1 c.parts.length k1, .slice none 0 0, .slice none 0 0, .slice A4 c.seqs.length k4] 28)) _ _ (Cloned.rd_own (f := seqC) (l := c.seqs) hof5 hlf5 hb5)
            go_wp2_with fail
            go_meet
            case rel => exact ⟨_, _, _, _, _, rfl, hbe, hsz5', hc9, hp9, hs9⟩
          · go_simp
            refine hK.out _ _ (hHeld.alloc _) (fun hHeld => ?_)
            clear hK K
            try simp only [Act.put, List.setIfInBounds_toArray, List.set_cons_zero, List.set_cons_succ]
            refine ht_one 7 rfl (by kernel_rfl) (fun K hK => ?_)
            go_simp
            refine (cloneSeq_any (HU.out _ (by first | exact hbU4 | exact hbU4.alloc hbU4.size _)).2 hns).mono ?_
            rintro e w5 ⟨v5, x5, rfl, hof5, hlf5, hb5⟩
            obtain ⟨A4, k4, rfl, _, _⟩ := own_slice hof5
            go_wp2_with fail
            refine hK.out _ _ (hHeld.below hb5 hHeld.lt) (fun hHeld => ?_)
            clear hK K
            try simp only [Act.put, List.setIfInBounds_toArray, List.set_cons_zero, List.set_cons_succ]
            refine ht_take 8 (v := ?vk_8) rfl (by kernel_rfl) (fun _ _ _ h => h) (Or.inl ⟨by rfl, ?hk_8⟩) hHeld ?rk_8
            case hk_8 => ((intro W hSw; have y0 : W.cell? ⟨g7, 0, none⟩ = some (.string c.id) := hSw.cell 0; have y1 : W.cell? ⟨g7, 1, none⟩ = some (.slice AP' c.parts.length cP') := hSw.cell 1; have y4 : W.cell? ⟨g7, 4, none⟩ = some (.slice AS' c.seqs.length cS') := hSw.cell 4; go_simp); (try (with_reducible rfl)))
            try simp only [Act.put, List.setIfInBounds_toArray, List.set_cons_zero, List.set_cons_succ]
            refine ht_done (by kernel_rfl) rfl ?_
            have hz : Blk w5 w4.heap.size 28 #[.string ⟨#[]⟩, .slice none 0 0, .slice none 0 0, .slice none 0 0, .slice none 0 0] := (Blk.new w4 _ _).below hb5 (Blk.new w4 _ _).lt
            have z0 : w5.cell? ⟨w4.heap.size, 0, none⟩ = some (.string ⟨#[]⟩) := hz.cell 0
            have z1 : w5.cell? ⟨w4.heap.size, 1, none⟩ = some (.slice none 0 0) := hz.cell 1
            have z2 : w5.cell? ⟨w4.heap.size, 2, none⟩ = some (.slice none 0 0) := hz.cell 2
            have z3 : w5.cell? ⟨w4.heap.size, 3, none⟩ = some (.slice none 0 0) := hz.cell 3
            have z4 : w5.cell? ⟨w4.heap.size, 4, none⟩ = some (.slice none 0 0) := hz.cell 4
            have q0_ : w5.frozen? ⟨w4.heap.size, 0, none⟩ = false := hz.frozen 0
            have q1_ : w5.frozen? ⟨w4.heap.size, 1, none⟩ = false := hz.frozen 1
            have q2_ : w5.frozen? ⟨w4.heap.size, 2, none⟩ = false := hz.frozen 2
            have q3_ : w5.frozen? ⟨w4.heap.size, 3, none⟩ = false := hz.frozen 3
            have q4_ : w5.frozen? ⟨w4.heap.size, 4, none⟩ = false := hz.frozen 4
            have hb25 : Below V2.heap.size V2 w5 := below_step (hbU4.alloc hbU4.size _) hb5
            have hg := setAll_grown (g := w4.heap.size) [.string c.id, .slice A1 c.parts.length k1, .slice none 0 0, .slice none 0 0, .slice A4 c.seqs.length k4] w5
            have hsz4 := hbU4.size
            have hbe : Below V2.heap.size V2 (setAll w5 w4.heap.size 0 [.string c.id, .slice A1 c.parts.length k1, .slice none 0 0, .slice none 0 0, .slice A4 c.seqs.length k4]) := hb25.grown hg hb25.size (fun k hk => by injection hk with hk; omega)
            have hc9 := setAll_blk (vs := [.string c.id, .slice A1 c.parts.length k1, .slice none 0 0, .slice none 0 0, .slice A4 c.seqs.length k4]) 0 w5 _ hz rfl
            have hp9 := Rd.fc_ hg hz _ _ (fc_parts c.parts) (Rd.below hb5 _ _ (Rd.below ((Below.refl _ _).alloc (Nat.le_refl _) _) _ _ (Cloned.rd_own hof4 hlf4 hb4)))
            have hs9 := Rd.fc_ hg hz _ _ (fc_seqs c.seqs) (Cloned.rd_own hof5 hlf5 hb5)
            go_wp2_with fail
            go_meet
            case rel => exact ⟨_, _, _, _, _, rfl, hbe, hsz4, hc9, hp9, hs9⟩
        · go_simp
          refine hK.out _ _ (hHeld.alloc _) (fun hHeld => ?_)
          clear hK K
          try simp only [Act.put, List.setIfInBounds_toArray, List.set_cons_zero, List.set_cons_succ]
          refine ht_one 4 rfl (by kernel_rfl) (fun K hK => ?_)
          go_simp
          refine (clonePart_any (HU.out _ (by first | exact (Below.refl _ _).drew | exact ((Below.refl _ _).drew).alloc (Nat.le_refl _) _)).1 hnp).mono ?_
          rintro e w4 ⟨v4, x4, rfl, hof4, hlf4, hb4⟩
          have hbU4 : Below V2.heap.size V2 w4 := by
            first
            | exact ((Below.refl V2.heap.size V2).drew).trans hb4
            | exact (((Below.refl V2.heap.size V2).drew).alloc (Nat.le_refl _) (.cells #[.string ⟨#[]⟩, .slice none 0 0, .slice none 0 0, .slice none 0 0, .slice none 0 0] 28)).trans (hb4.mono (by simp))
          obtain ⟨A1, k1, rfl, _, _⟩ := own_slice hof4
          go_wp2_with fail
          refine hK.out _ _ (hHeld.below hb4 hHeld.lt) (fun hHeld => ?_)
          clear hK K
          try simp only [Act.put, List.setIfInBounds_toArray, List.set_cons_zero, List.set_cons_succ]
          refine ht_one 7 rfl (by kernel_rfl) (fun K hK => ?_)
          go_simp
          refine (cloneSeq_any (HU.out _ (by first | exact hbU4 | exact hbU4.alloc hbU4.size _)).2 hns).mono ?_
          rintro e w5 ⟨v5, x5, rfl, hof5, hlf5, hb5⟩
          obtain ⟨A4, k4, rfl, _, _⟩ := own_slice hof5
          go_wp2_with fail
          refine hK.out _ _ (hHeld.below hb5 hHeld.lt) (fun hHeld => ?_)
          clear hK K
          try simp only [Act.put, List.setIfInBounds_toArray, List.set_cons_zero, List.set_cons_succ]
          refine ht_take 8 (v := ?vk_9) rfl (by kernel_rfl) (fun _ _ _ h => h) (Or.inl ⟨by rfl, ?hk_9⟩) hHeld ?rk_9
          case hk_9 => ((intro W hSw; have y0 : W.cell? ⟨g7, 0, none⟩ = some (.string c.id) := hSw.cell 0; have y1 : W.cell? ⟨g7, 1, none⟩ = some (.slice AP' c.parts.length cP') := hSw.cell 1; have y4 : W.cell? ⟨g7, 4, none⟩ = some (.slice AS' c.seqs.length cS') := hSw.cell 4; go_simp); (try (with_reducible rfl)))
          try simp only [Act.put, List.setIfInBounds_toArray, List.set_cons_zero, List.set_cons_succ]
          refine ht_done (by kernel_rfl) rfl ?_
          have hz : Blk w5 V2.heap.size 28 #[.string ⟨#[]⟩, .slice none 0 0, .slice none 0 0, .slice none 0 0, .slice none 0 0] := ((Blk.new V2.drew _ _).below hb4 (Blk.new V2.drew _ _).lt).below hb5 ((Blk.new V2.drew _ _).below hb4 (Blk.new V2.drew _ _).lt).lt
          have z0 : w5.cell? ⟨V2.heap.size, 0, none⟩ = some (.string ⟨#[]⟩) := hz.cell 0
          have z1 : w5.cell? ⟨V2.heap.size, 1, none⟩ = some (.slice none 0 0) := hz.cell 1
          have z2 : w5.cell? ⟨V2.heap.size, 2, none⟩ = some (.slice none 0 0) := hz.cell 2
          have z3 : w5.cell? ⟨V2.heap.size, 3, none⟩ = some (.slice none 0 0) := hz.cell 3
          have z4 : w5.cell? ⟨V2.heap.size, 4, none⟩ = some (.slice none 0 0) := hz.cell 4
          have q0_ : w5.frozen? ⟨V2.heap.size, 0, none⟩ = false := hz.frozen 0
          have q1_ : w5.frozen? ⟨V2.heap.size, 1, none⟩ = false := hz.frozen 1
          have q2_ : w5.frozen? ⟨V2.heap.size, 2, none⟩ = false := hz.frozen 2
          have q3_ : w5.frozen? ⟨V2.heap.size, 3, none⟩ = false := hz.frozen 3
          have q4_ : w5.frozen? ⟨V2.heap.size, 4, none⟩ = false := hz.frozen 4
          have hb25 : Below V2.heap.size V2 w5 := below_step hbU4 hb5
          have hg := setAll_grown (g := V2.heap.size) [.string c.id, .slice A1 c.parts.length k1, .slice none 0 0, .slice none 0 0, .slice A4 c.seqs.length k4] w5
          have hbe : Below V2.heap.size V2 (setAll w5 V2.heap.size 0 [.string c.id, .slice A1 c.parts.length k1, .slice none 0 0, .slice none 0 0, .slice A4 c.seqs.length k4]) := hb25.grown hg hb25.size (fun k hk => by injection hk with hk; omega)
          have hc9 := setAll_blk (vs := [.string c.id, .slice A1 c.parts.length k1, .slice none 0 0, .slice none 0 0, .slice A4 c.seqs.length k4]) 0 w5 _ hz rfl
          have hp9 := Rd.fc_ hg hz _ _ (fc_parts c.parts) (Rd.below hb5 _ _ (Cloned.rd_own hof4 hlf4 hb4))
          have hs9 := Rd.fc_ hg hz _ _ (fc_seqs c.seqs) (Cloned.rd_own hof5 hlf5 hb5)
          go_wp2_with fail
          go_meet
          case rel => exact ⟨_, _, _, _, _, rfl, hbe, Nat.le_refl _, hc9, hp9, hs9⟩
      case rest =>
        obtain ⟨g9, A1, k1, A4, k4, rfl, hb6, hg9, hB9, hrP, hrS⟩ := hcut
        obtain ⟨V3, rfl⟩ : ∃ V3, V3 = wc := ⟨_, rfl⟩
        have HB6 := Lib.hid hb6
        have HB9 := Lib.hid hB9
        have HRP := Lib.hid hrP
        have HRS := Lib.hid hrS
        have hsz6 := hb6.size
        have hb73 := HB7b.out.below hb6 HB7b.out.lt
        have c3 : V3.cell? ⟨g7, 3, none⟩ = some (.slice AI' c.items.length cI') := hb73.cell 3
        have hbU : Below w.heap.size w (V3.alloc (.cells #[.string id] 9)) := (HBX.out.trans (hb6.mono (by omega))).alloc (by omega) _
        have hstU := (HST5.out.below hb6).below ((Below.refl _ _).alloc (Nat.le_refl _) (.cells #[.string id] 9))
        have hop : Rd (V3.alloc (.cells #[.string id] 9)) (strsD [id]) (.slice (some ⟨V3.heap.size, 0, none⟩) 1 1) :=
          rd_sl.2 ⟨_, _, [.string id], rfl, World.ownsRow_lit (base := 0) V3 #[.string id] 1 (Nat.zero_le _) (by decide) rfl, rdl_cons.2 ⟨_, _, rfl, rd_str.2 rfl, rdl_nil.2 rfl⟩⟩
        have HBU := Lib.hid hbU
        have HSTU := Lib.hid hstU
        have HOPU := Lib.hid hop
        clear hb6 hB9 hrP hrS hb73 hbU hstU hop
        go_wp2_with fail
        refine (HI.out w (V3.alloc (.cells #[.string id] 9)) m _ _ _ _ _ ⟨#[]⟩ [] [id] c.items ⟨c.flows, 0, 0⟩ s2 its HBU.out HC.out HIC.out (rd_sl.2 ⟨none, 0, [], rfl, World.ownsRow_nil _ _ _ _, rdl_nil.2 rfl⟩) HOPU.out HSTU.out HIT.out HSM.out.items hni (by have : (ByteArray.mk #[]).size = 0 := rfl; omega) (by simp; omega) hbn (by show (0 : Int) ≤ 0; omega) hbf).mono ?_
        rintro e7 w7 ⟨v7, rfl, hrd7, hst7, hmk7⟩
        have hb9a := (HB9.out.alloc (.cells #[.string id] 9)).mk_ hmk7 (by decide) (by decide)
        have hra := ((HR3.out.below HB6.out HR3.out.lt).alloc (.cells #[.string id] 9)).mk_ hmk7 (by decide) (by decide)
        have y3_ : w7.cell? ⟨g9, 3, none⟩ = some (.slice none 0 0) := hb9a.cell 3
        have y3f := hb9a.frozen 3
        obtain ⟨A7, k7, _, rfl, _, _, _⟩ := rdp_sl.1 hrd7
        have HRD7 := Lib.hid (RdP.rd _ _ hrd7)
        have HST7 := Lib.hid hst7
        have HMK7 := Lib.hid hmk7
        have HB9A := Lib.hid hb9a
        have HRA := Lib.hid hra
        have hbw7 : Below w.heap.size w w7 := HBU.out.trans hmk7.to_below
        have HBW7 := Lib.hid hbw7
        have hsz7 := hmk7.size
        clear hrd7 hst7 hmk7 hb9a hra hbw7
        go_upto_region 8 with fail
        obtain ⟨W8, hW8⟩ : ∃ W, W = w7.setCell ⟨g9, 3, none⟩ (.slice A7 its.length k7) := ⟨_, rfl⟩
        have hg8 := only_set (w := w7) (p := ⟨g9, 3, none⟩) rfl (.slice A7 its.length k7)
        have hgne : g9 ≠ m := fun e => by
          obtain ⟨⟨vF, h1, _⟩, _⟩ := HST7.out
          have h2 := HB9A.out
          rw [e] at h2
          unfold Blk at h1 h2
          rw [h1] at h2
          injection h2 with h2
          injection h2 with _ ht _
          exact absurd ht (by decide)
        have hst8 : MkSt W8 m w.heap.size (.slice AM d.msgs.length cM) (.slice (some ⟨b, 0, none⟩) d.chors.length cC) s2 := by rw [hW8]; exact HST7.out.new_ hg8 HB9A.out
        have hb98 : Blk W8 g9 28 #[.string c.id, .slice A1 c.parts.length k1, .slice none 0 0, .slice A7 its.length k7, .slice A4 c.seqs.length k4] := by rw [hW8]; exact HB9A.out.set_ 3 _
        have hr8 : Blk W8 (w.heap.size + 1) 28 #[.string ⟨#[]⟩, .slice none 0 0, .slice none 0 0, .slice none 0 0, .slice none 0 0] := by rw [hW8]; exact HRA.out.far (by show w.heap.size + 1 ≠ g9; omega) _
        have hsb : Below w.heap.size w W8 := by rw [hW8]; exact HBW7.out.setCell (by show w.heap.size ≤ g9; omega) _
        have halloc : ∀ (D : Dat) (v : Value), Rd V3 D v → Rd (V3.alloc (.cells #[.string id] 9)) D v := fun D v h => Rd.below ((Below.refl _ _).alloc (Nat.le_refl _) _) D v h
        have hp8 : Rd W8 (partsD c.parts) (.slice A1 c.parts.length k1) := by rw [hW8]; exact Rd.fc_ hg8 HB9A.out _ _ (fc_parts _) (Rd.mk_ HMK7.out _ _ (fm_parts _) (halloc _ _ HRP.out))
        have hs8 : Rd W8 (seqsD c.seqs) (.slice A4 c.seqs.length k4) := by rw [hW8]; exact Rd.fc_ hg8 HB9A.out _ _ (fc_seqs _) (Rd.mk_ HMK7.out _ _ (fm_seqs _) (halloc _ _ HRS.out))
        have hi8 : Rd W8 (itemsD its) (.slice A7 its.length k7) := by rw [hW8]; exact Rd.fc_ hg8 HB9A.out _ _ (fc_items _) HRD7.out
        obtain ⟨⟨vF8, hm8, ho8⟩, _⟩ := hst8
        obtain ⟨A3, k3, rfl, _, _⟩ := own_slice ho8
        have hf8 : Rd W8 (flowsD s2.flows) (.slice A3 s2.flows.length k3) := rd_sl.2 ⟨A3, k3, _, rfl, own_mono ho8 (by omega), rdl_flowV _⟩
        rw [← hW8]
        have m4 : W8.cell? ⟨m, 4, none⟩ = some (.int .i64 s2.e) := hm8.cell 4
        have m2 : W8.cell? ⟨m, 2, none⟩ = some (.slice A3 s2.flows.length k3) := hm8.cell 2
        have hn1 : ¬ w.heap.size + 1 = g9 := by omega
        have hn2 : ¬ g9 = w.heap.size + 1 := by omega
        have hn3 : ¬ w.heap.size + 1 = m := by omega
        have hn4 : ¬ m = w.heap.size + 1 := by omega
        have hn5 : ¬ m = g9 := Ne.symm hgne
        have z0 : W8.cell? ⟨w.heap.size + 1, 0, none⟩ = some (.string ⟨#[]⟩) := hr8.cell 0
        have z1 : W8.cell? ⟨w.heap.size + 1, 1, none⟩ = some (.slice none 0 0) := hr8.cell 1
        have z2 : W8.cell? ⟨w.heap.size + 1, 2, none⟩ = some (.slice none 0 0) := hr8.cell 2
        have z3 : W8.cell? ⟨w.heap.size + 1, 3, none⟩ = some (.slice none 0 0) := hr8.cell 3
        have z4 : W8.cell? ⟨w.heap.size + 1, 4, none⟩ = some (.slice none 0 0) := hr8.cell 4
        have q0 : W8.frozen? ⟨w.heap.size + 1, 0, none⟩ = false := hr8.frozen 0
        have q1 : W8.frozen? ⟨w.heap.size + 1, 1, none⟩ = false := hr8.frozen 1
        have q2 : W8.frozen? ⟨w.heap.size + 1, 2, none⟩ = false := hr8.frozen 2
        have q3 : W8.frozen? ⟨w.heap.size + 1, 3, none⟩ = false := hr8.frozen 3
        have q4 : W8.frozen? ⟨w.heap.size + 1, 4, none⟩ = false := hr8.frozen 4
        have HB98 := Lib.hid hb98
        have HR8 := Lib.hid hr8
        have HSB := Lib.hid hsb
        have HCV : Hid (ChorV W8 ⟨c.id, c.parts, s2.flows, its, c.seqs⟩ (.slice A1 c.parts.length k1) (.slice A3 s2.flows.length k3) (.slice A7 its.length k7) (.slice A4 c.seqs.length k4)) := ⟨hp8, hf8, hi8, hs8⟩
        clear hW8 hg8 hb98 hr8 hsb halloc hp8 hs8 hi8 hf8 hm8 ho8 y3_ y3f c3
        by_cases he0 : s2.e = 0
        · have heb : (s2.e != 0) = false := by simp [he0]
          have hfin := HFIN.out
          rw [if_neg (by simp [he0])] at hfin
          have HFN := Lib.hid hfin
          clear hfin he0
          have g0 : W8.cell? ⟨g9, 0, none⟩ = some (.string c.id) := HB98.out.cell 0
          have g1 : W8.cell? ⟨g9, 1, none⟩ = some (.slice A1 c.parts.length k1) := HB98.out.cell 1
          have g2 : W8.cell? ⟨g9, 2, none⟩ = some (.slice none 0 0) := HB98.out.cell 2
          have g3 : W8.cell? ⟨g9, 3, none⟩ = some (.slice A7 its.length k7) := HB98.out.cell 3
          have g4 : W8.cell? ⟨g9, 4, none⟩ = some (.slice A4 c.seqs.length k4) := HB98.out.cell 4
          have g2f : W8.frozen? ⟨g9, 2, none⟩ = false := HB98.out.frozen 2
          go_wp2_with fail
          have hg9' := only_set (w := W8) (p := ⟨g9, 2, none⟩) rfl (.slice A3 s2.flows.length k3)
          have hz9 := HR8.out.far (p := ⟨g9, 2, none⟩) hn1 (.slice A3 s2.flows.length k3)
          have hb3 := setAll_blk (vs := [.string c.id, .slice A1 c.parts.length k1, .slice A3 s2.flows.length k3, .slice A7 its.length k7, .slice A4 c.seqs.length k4]) 0 (W8.setCell ⟨g9, 2, none⟩ (.slice A3 s2.flows.length k3)) _ hz9 rfl
          have hgA := setAll_grown (g := w.heap.size + 1) [.string c.id, .slice A1 c.parts.length k1, .slice A3 s2.flows.length k3, .slice A7 its.length k7, .slice A4 c.seqs.length k4] (W8.setCell ⟨g9, 2, none⟩ (.slice A3 s2.flows.length k3))
          have hend : InlEnd w cc e (.returned (.tuple #[.agg #[.string c.id, .slice A1 c.parts.length k1, .slice A3 s2.flows.length k3, .slice A7 its.length k7, .slice A4 c.seqs.length k4], .int .i64 0])) (setAll (W8.setCell ⟨g9, 2, none⟩ (.slice A3 s2.flows.length k3)) (w.heap.size + 1) 0 [.string c.id, .slice A1 c.parts.length k1, .slice A3 s2.flows.length k3, .slice A7 its.length k7, .slice A4 c.seqs.length k4]) := by
            rw [HFN.out.1, HFN.out.2]
            refine ⟨_, _, _, _, rfl, (HCV.out.fc_ hg9' HB98.out).fc_ hgA hz9, (HSB.out.setCell (by show w.heap.size ≤ g9; omega) _).grown hgA (by have := HSB.out.size; simpa [World.setCell] using this) (fun k hk => by injection hk with hk; omega)⟩
          exact bodyPost_ret (ret_chor hb3 rfl rfl) rfl hend
        · have heb : (s2.e != 0) = true := by simp [he0]
          have hfin := HFIN.out
          rw [if_pos he0] at hfin
          have HFN := Lib.hid hfin
          clear hfin he0
          go_wp2_with fail
          go_region
          all_goals
            go_wp2_with fail
            have hb3 : Blk (setAll W8 (w.heap.size + 1) 0 [.string ⟨#[]⟩, .slice none 0 0, .slice none 0 0, .slice none 0 0, .slice none 0 0]).drew (w.heap.size + 1) 28 #[.string ⟨#[]⟩, .slice none 0 0, .slice none 0 0, .slice none 0 0, .slice none 0 0] := setAll_blk (vs := [.string ⟨#[]⟩, .slice none 0 0, .slice none 0 0, .slice none 0 0, .slice none 0 0]) 0 W8 _ HR8.out rfl
            have hgA := setAll_grown (g := w.heap.size + 1) [.string ⟨#[]⟩, .slice none 0 0, .slice none 0 0, .slice none 0 0, .slice none 0 0] W8
            have hend : InlEnd w cc e (.returned (.tuple #[.agg #[.string ⟨#[]⟩, .slice none 0 0, .slice none 0 0, .slice none 0 0, .slice none 0 0], .int .i64 s2.e])) (setAll W8 (w.heap.size + 1) 0 [.string ⟨#[]⟩, .slice none 0 0, .slice none 0 0, .slice none 0 0, .slice none 0 0]).drew := by
              rw [HFN.out.1, HFN.out.2]
              have hbb : Below w.heap.size w (setAll W8 (w.heap.size + 1) 0 [.string ⟨#[]⟩, .slice none 0 0, .slice none 0 0, .slice none 0 0, .slice none 0 0]) := HSB.out.grown hgA HSB.out.size (fun k hk => by injection hk with hk; omega)
              exact ⟨_, _, _, _, rfl, chorV_nil, below_drewN hbb 1⟩
            exact bodyPost_ret (ret_chor hb3 rfl rfl) rfl hend
end Go.Proofs.Yteoioboiniealaa
