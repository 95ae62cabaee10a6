/- The contract of flat.Graph. -/
import Derived.Test.YteoioboiniealaaFlaE
namespace Go.Proofs.Yteoioboiniealaa
open Go.RowKit
attribute [local go_sem ↓] Go.wp_at_zero Go.wp_at_succ

def nodeC (x : NodeD) : List Dat := [.int x.kind, .str x.id, .int x.src, .int x.dst, .int x.msg, .int x.reply, .bool x.loop]
def edgeC (x : Int × Int) : List Dat := [.int x.1, .int x.2]
def nodesD (l : List NodeD) : Dat := datS 55 7 nodeC l
def edgesD (l : List (Int × Int)) : Dat := datS 53 2 edgeC l
theorem nodeC_len (x : NodeD) : (nodeC x).length = 7 := rfl
theorem edgeC_len (x : Int × Int) : (edgeC x).length = 2 := rfl
theorem rd_of_nodes {W : World} {B : Nat} {v : Value} {l : List NodeD} (h : W.ownsRow B 55 7 v l.length (l.flatMap nodeV)) : Rd W (nodesD l) v := by
  obtain ⟨A, c, rfl, _, _⟩ := own_slice h
  refine rd_sl.2 ⟨A, c, _, rfl, own_mono h (Nat.zero_le _), ?_⟩
  have hl : ∀ l : List NodeD, RdL W (l.flatMap nodeC) (l.flatMap nodeV) := by
    intro l
    induction l with
    | nil => exact rdl_nil.2 rfl
    | cons a l ih =>
      rw [List.flatMap_cons, List.flatMap_cons]
      exact RdL.append (rdl_cons.2 ⟨_, _, rfl, rd_int.2 rfl, rdl_cons.2 ⟨_, _, rfl, rd_str.2 rfl, rdl_cons.2 ⟨_, _, rfl, rd_int.2 rfl, rdl_cons.2 ⟨_, _, rfl, rd_int.2 rfl, rdl_cons.2 ⟨_, _, rfl, rd_int.2 rfl, rdl_cons.2 ⟨_, _, rfl, rd_int.2 rfl, rdl_cons.2 ⟨_, _, rfl, rd_bool.2 rfl, rdl_nil.2 rfl⟩⟩⟩⟩⟩⟩⟩) ih
  exact hl l
theorem rd_of_edges {W : World} {B : Nat} {v : Value} {l : List (Int × Int)} (h : W.ownsRow B 53 2 v l.length (l.flatMap edgeV)) : Rd W (edgesD l) v := by
  obtain ⟨A, c, rfl, _, _⟩ := own_slice h
  refine rd_sl.2 ⟨A, c, _, rfl, own_mono h (Nat.zero_le _), ?_⟩
  have hl : ∀ l : List (Int × Int), RdL W (l.flatMap edgeC) (l.flatMap edgeV) := by
    intro l
    induction l with
    | nil => exact rdl_nil.2 rfl
    | cons a l ih =>
      rw [List.flatMap_cons, List.flatMap_cons]
      exact RdL.append (rdl_cons.2 ⟨_, _, rfl, rd_int.2 rfl, rdl_cons.2 ⟨_, _, rfl, rd_int.2 rfl, rdl_nil.2 rfl⟩⟩) ih
  exact hl l
theorem flevel_ok {C : FC} {wB : World} {m : Nat} (hm : m < wB.heap.size) (hd : FD C wB m) : ∀ f, LevelOk C wB m f
  | 0 => fun within l sq s r s' W vI vS h => by unfold flevF at h; cases h
  | f + 1 => flevel_step hm hd (flevel_ok hm hd f)
theorem ret_graph {W : World} {g : Nat} {v0 v1 v2 v3 x : Value} {tmps : Array Value} (h : Blk W g 44 #[v0, v1, v2, v3]) (ht : tmps.getD 2 undef = .pointer (some ⟨g, 0, none⟩)) (hx : tmps.getD 3 undef = x) :
    (results Try.f11 tmps).run Try.prog W = .ok (.tuple #[.agg #[v0, v1, v2, v3], x]) W := by
  have x0 : W.cell? ⟨g, 0, none⟩ = some v0 := h.cell 0
  have x1 : W.cell? ⟨g, 1, none⟩ = some v1 := h.cell 1
  have x2 : W.cell? ⟨g, 2, none⟩ = some v2 := h.cell 2
  have x3 : W.cell? ⟨g, 3, none⟩ = some v3 := h.cell 3
  simp [results, Try.results11, go_sem, ht, hx, x0, x1, x2, x3, -Array.getD_eq_getD_getElem?]
/-- What Graph hands back. -/
def GraphEnd (w : World) (ps : List ByteArray) (s : FS) (e : Ending) (w' : World) : Prop :=
  Below w.heap.size w w' ∧ ((s.e ≠ 0 ∧ e = .returned (.tuple #[.agg #[.slice none 0 0, .slice none 0 0, .slice none 0 0, .slice none 0 0], .int .i64 s.e])) ∨
    (s.e = 0 ∧ ∃ vG vM vN vE, e = .returned (.tuple #[.agg #[vG, vM, vN, vE], .int .i64 0]) ∧ Rd w' (strsD ps) vG ∧ Rd w' (strsD s.msgs) vM ∧ Rd w' (nodesD s.nodes) vN ∧ Rd w' (edgesD s.edges) vE))
/-- Blocks of the call's own: the choreography, the result, the maker with names so far. -/
structure GB (w : World) (c : ChorD) (AP : Option Addr) (cP : Nat) (AF : Option Addr) (cF : Nat) (AI : Option Addr) (cI : Nat) (AS : Option Addr) (cS : Nat) (gc : Nat) (ps : List ByteArray) (vG : Value) (V : World) : Prop where
  bel : Below w.heap.size w V
  bc : Blk V gc 28 #[.string c.id, .slice AP c.parts.length cP, .slice AF c.flows.length cF, .slice AI c.items.length cI, .slice AS c.seqs.length cS]
  bg : Blk V (gc + 1) 44 #[.slice none 0 0, .slice none 0 0, .slice none 0 0, .slice none 0 0]
  bm : Blk V (gc + 1 + 1) 95 #[.string c.id, .slice AP c.parts.length cP, .slice AF c.flows.length cF, .slice AI c.items.length cI, .slice AS c.seqs.length cS, vG, .slice none 0 0, .slice none 0 0, .slice none 0 0, .int .i64 0]
  oG : V.ownsRow w.heap.size 9 1 vG ps.length (ps.map .string)
theorem GB.below {w V V1 : World} {c : ChorD} {AP : Option Addr} {cP : Nat} {AF : Option Addr} {cF : Nat} {AI : Option Addr} {cI : Nat} {AS : Option Addr} {cS : Nat} {gc : Nat} {ps : List ByteArray} {vG : Value} (h : GB w c AP cP AF cF AI cI AS cS gc ps vG V) (k : Below V.heap.size V V1) : GB w c AP cP AF cF AI cI AS cS gc ps vG V1 :=
  ⟨h.bel.trans (k.mono h.bel.size), h.bc.below k h.bc.lt, h.bg.below k h.bg.lt, h.bm.below k h.bm.lt, own_below h.oG k⟩
theorem GB.name {w V W2 : World} {c : ChorD} {AP : Option Addr} {cP : Nat} {AF : Option Addr} {cF : Nat} {AI : Option Addr} {cI : Nat} {AS : Option Addr} {cS : Nat} {gc : Nat} {ps : List ByteArray} {vG : Value} {o : Obj} {id : ByteArray} {gA cap : Nat} (h : GB w c AP cP AF cF AI cI AS cS gc ps vG V) (hgc : w.heap.size = gc)
    (hown : W2.ownsRow w.heap.size 9 1 (.slice (some ⟨gA, 0, none⟩) (ps.length + 1) cap) (ps.length + 1) (ps.map .string ++ [.string id])) (hgrow : (V.alloc o).grownBy W2 vG.ownBlock) (hat : vG.ownBlock = some gA ∨ gA = V.heap.size + 1) :
    GB w c AP cP AF cF AI cI AS cS gc (ps ++ [id]) (.slice (some ⟨gA, 0, none⟩) (ps.length + 1) cap) (W2.setCell ⟨gc + 1 + 1, 5, none⟩ (.slice (some ⟨gA, 0, none⟩) (ps.length + 1) cap)) := by
  have ha := h.below ((Below.refl _ _).alloc (Nat.le_refl _) o)
  have b2 : Below w.heap.size w W2 := ha.bel.grown hgrow ha.bel.size (fun k hk => (ha.oG.lt k hk).1)
  have hne : gA ≠ gc + 1 + 1 := by
    rcases hat with h1 | h1
    · intro e; exact blk_own_ne h.oG h.bm (by decide) (by rw [h1, e])
    · have := h.bm.lt; omega
  refine ⟨b2.setCell (p := ⟨gc + 1 + 1, 5, none⟩) (by show w.heap.size ≤ gc + 1 + 1; omega) _, (ha.bc.grown hgrow (Ne.symm (blk_own_ne ha.oG ha.bc (by decide)))).far (by show gc ≠ gc + 1 + 1; omega) _, (ha.bg.grown hgrow (Ne.symm (blk_own_ne ha.oG ha.bg (by decide)))).far (by show gc + 1 ≠ gc + 1 + 1; omega) _, (ha.bm.grown hgrow (Ne.symm (blk_own_ne ha.oG ha.bm (by decide)))).set_ 5 _, ?_⟩
  have := ownsRow_setCell_other (a := ⟨gc + 1 + 1, 5, none⟩) hown (by show some gA ≠ some (gc + 1 + 1); simpa using hne) (.slice (some ⟨gA, 0, none⟩) (ps.length + 1) cap)
  simpa using this
/-- The result's block is written. -/
theorem rd_set4 {W : World} {g : Nat} {T : TypeId} {cs : Array Value} {d : Dat} {v : Value} (h : Rd W d v) (hb : Blk W g T cs) (hf : Dat.free T d) (u0 u1 u2 u3 : Value) : Rd ((((W.setCell ⟨g, 0, none⟩ u0).setCell ⟨g, 1, none⟩ u1).setCell ⟨g, 2, none⟩ u2).setCell ⟨g, 3, none⟩ u3) d v :=
  Rd.grown (grown_set _ g 3 u3) (((hb.set_ 0 u0).set_ 1 u1).set_ 2 u2) d v hf (Rd.grown (grown_set _ g 2 u2) ((hb.set_ 0 u0).set_ 1 u1) d v hf (Rd.grown (grown_set _ g 1 u1) (hb.set_ 0 u0) d v hf (Rd.grown (grown_set _ g 0 u0) hb d v hf h)))
theorem free_nodes (T : TypeId) (h : 55 ≠ T) (l : List NodeD) : Dat.free T (nodesD l) := by unfold nodesD datS Dat.free; exact ⟨h, free_flat (fun x => by unfold nodeC; simp [freeL, Dat.free]) l⟩
theorem free_edges (T : TypeId) (h : 53 ≠ T) (l : List (Int × Int)) : Dat.free T (edgesD l) := by unfold edgesD datS Dat.free; exact ⟨h, free_flat (fun x => by unfold edgeC; simp [freeL, Dat.free]) l⟩
set_option maxRecDepth 100000 in
set_option maxHeartbeats 8000000 in
theorem graph_any {w : World} (f : Nat) (c : ChorD) {AP : Option Addr} {cP : Nat} {AF : Option Addr} {cF : Nat} {AI : Option Addr} {cI : Nat} {AS : Option Addr} {cS : Nat} (hc : Comp w c.parts c.flows c.items c.seqs AP cP AF cF AI cI AS cS)
    (hpl : c.parts.length ≤ 1000000) (hfl : c.flows.length ≤ 1000000) (hil : c.items.length ≤ 1000000) (hll : lenL c.items) {s : FS} (h : graphF f c = some s) (hs : SmallF s) :
    Calls Try.prog 11 #[.agg #[.string c.id, .slice AP c.parts.length cP, .slice AF c.flows.length cF, .slice AI c.items.length cI, .slice AS c.seqs.length cS]] w (GraphEnd w (c.parts.map (·.id)) s) := by
  unfold graphF at h
  split at h
  · cases h
  rename_i r hr
  injection h with h
  obtain ⟨gc, hgc⟩ : ∃ g, g = w.heap.size := ⟨_, rfl⟩
  obtain ⟨T, hT⟩ : ∃ T, T = ((w.alloc (.cells #[.string c.id, .slice AP c.parts.length cP, .slice AF c.flows.length cF, .slice AI c.items.length cI, .slice AS c.seqs.length cS] 28)).alloc (.cells #[.slice none 0 0, .slice none 0 0, .slice none 0 0, .slice none 0 0] 44)).alloc (.cells #[.string c.id, .slice AP c.parts.length cP, .slice AF c.flows.length cF, .slice AI c.items.length cI, .slice AS c.seqs.length cS, .slice none 0 0, .slice none 0 0, .slice none 0 0, .slice none 0 0, .int .i64 0] 95) := ⟨_, rfl⟩
  have hbT : Below w.heap.size w T := by rw [hT]; exact ((((Below.refl _ _).alloc (Nat.le_refl _) _).alloc (by simp) _).alloc (by simp; omega) _)
  have hGT : GB w c AP cP AF cF AI cI AS cS gc [] (.slice none 0 0) T := by
    have k1 := Blk.new w 28 #[.string c.id, .slice AP c.parts.length cP, .slice AF c.flows.length cF, .slice AI c.items.length cI, .slice AS c.seqs.length cS]
    have k2 := Blk.new (w.alloc (.cells #[.string c.id, .slice AP c.parts.length cP, .slice AF c.flows.length cF, .slice AI c.items.length cI, .slice AS c.seqs.length cS] 28)) 44 #[.slice none 0 0, .slice none 0 0, .slice none 0 0, .slice none 0 0]
    have k3 := Blk.new ((w.alloc (.cells #[.string c.id, .slice AP c.parts.length cP, .slice AF c.flows.length cF, .slice AI c.items.length cI, .slice AS c.seqs.length cS] 28)).alloc (.cells #[.slice none 0 0, .slice none 0 0, .slice none 0 0, .slice none 0 0] 44)) 95 #[.string c.id, .slice AP c.parts.length cP, .slice AF c.flows.length cF, .slice AI c.items.length cI, .slice AS c.seqs.length cS, .slice none 0 0, .slice none 0 0, .slice none 0 0, .slice none 0 0, .int .i64 0]
    have z1 : (w.alloc (.cells #[.string c.id, .slice AP c.parts.length cP, .slice AF c.flows.length cF, .slice AI c.items.length cI, .slice AS c.seqs.length cS] 28)).heap.size = w.heap.size + 1 := by simp
    have z2 : ((w.alloc (.cells #[.string c.id, .slice AP c.parts.length cP, .slice AF c.flows.length cF, .slice AI c.items.length cI, .slice AS c.seqs.length cS] 28)).alloc (.cells #[.slice none 0 0, .slice none 0 0, .slice none 0 0, .slice none 0 0] 44)).heap.size = w.heap.size + 1 + 1 := by simp
    rw [z1] at k2
    rw [z2] at k3
    refine ⟨hbT, ?_, ?_, ?_, World.ownsRow_nil _ _ _ _⟩
    · rw [hT, hgc]; exact (k1.alloc _).alloc _
    · rw [hT, hgc]; exact k2.alloc _
    · rw [hT, hgc]; exact k3
  have i1 : T.cell? ⟨gc, 1, none⟩ = some (.slice AP c.parts.length cP) := hGT.bc.cell 1
  have HGT := Lib.hid hGT
  have HC := Lib.hid hc
  have HT := Lib.hid hT.symm
  have HGC := Lib.hid hgc.symm
  have HR := Lib.hid hr
  have HS := Lib.hid hs
  have HRS := Lib.hid h
  obtain ⟨j0, hj0, hy0, hy1, hy2⟩ := info_parts Try.infoFStr
  clear hc hT hr hs hGT h hbT
  go_enter Try.func11, Try.ntmps11
  go_upto_region 2 with fail
  rw [HT.out, HGC.out]
  clear hgc HT
  go_wp2_with fail
  clear i1
  go_loopw [13] (fun iv wr => ∃ (k : Nat) (vG : Value), k ≤ c.parts.length ∧ iv = .int .i64 k ∧ GB w c AP cP AF cF AI cI AS cS gc ((c.parts.take k).map (·.id)) vG wr) (fun iv _ => c.parts.length - (intOf iv).toNat)
  case atStart => exact ⟨0, _, Nat.zero_le _, rfl, HGT.out⟩
  case round =>
    clear HGT
    obtain ⟨k, vG, hk, rfl, hG⟩ := hrel
    obtain ⟨V, rfl⟩ : ∃ V, V = wr := ⟨_, rfl⟩
    have HG := Lib.hid hG
    by_cases hlt : k < c.parts.length
    · obtain ⟨APx, cPx, hvP, _, _, hat⟩ := rd_at partC_len (Rd.below hG.bel _ _ HC.out.parts)
      injection hvP with e1 _ e3
      subst e1
      subst e3
      obtain ⟨b, vs, rfl, hb, _, hvs, hcell⟩ := hat k hlt
      obtain ⟨x, hx⟩ : ∃ x, x = c.parts[k] := ⟨_, rfl⟩
      rw [← hx] at hvs
      obtain rfl := rd_partC hvs
      have hst : (c.parts.take (k + 1)).map (·.id) = (c.parts.take k).map (·.id) ++ [x.id] := by
        rw [List.take_succ_eq_append_getElem hlt, List.map_append, hx]
        rfl
      obtain ⟨ps, hps⟩ : ∃ l, l = (c.parts.take k).map (·.id) := ⟨_, rfl⟩
      have hpl2 : ps.length ≤ 1000000 := by rw [hps]; simp; omega
      rw [← hps] at hst HG hG
      have e0 : V.cell? ⟨b, k * 2, none⟩ = some (.string x.id) := hcell 0 (by omega)
      have e1 : V.cell? ⟨b, k * 2 + 1, none⟩ = some (.string x.name) := hcell 1 (by omega)
      obtain ⟨gp, hgp⟩ : ∃ g, g = V.heap.size := ⟨_, rfl⟩
      obtain ⟨T1, hT1⟩ : ∃ T, T = V.alloc (.cells #[.string x.id, .string x.name] 38) := ⟨_, rfl⟩
      have bT1 : Below V.heap.size V T1 := by rw [hT1]; exact (Below.refl _ _).alloc (Nat.le_refl _) _
      have hbp : Blk T1 gp 38 #[.string x.id, .string x.name] := by rw [hT1, hgp]; exact Blk.new _ _ _
      have hG1 := hG.below bT1
      obtain ⟨AG, cG, rfl, _, _⟩ := own_slice hG1.oG
      have HG1 := Lib.hid hG1
      have HBP := Lib.hid hbp
      have HST := Lib.hid hst
      have HT1 := Lib.hid hT1.symm
      have HGP := Lib.hid hgp.symm
      have hgl := hG1.bm.lt
      have hwT := hG1.bel.size
      have hkI : (k : Int) < (c.parts.length : Int) := by omega
      clear hG hat hvs hcell hx hst hps hT1 hgp bT1 hbp hG1 HG
      go_upto_region 5 with fail
      rw [HT1.out, HGP.out]
      clear e0 e1 HT1
      refine wp_region_HT 13 (fun U => Blk U (gc + 1 + 1) 95 #[.string c.id, .slice (some ⟨b, 0, none⟩) c.parts.length cP, .slice AF c.flows.length cF, .slice AI c.items.length cI, .slice AS c.seqs.length cS, .slice AG ps.length cG, .slice none 0 0, .slice none 0 0, .slice none 0 0, .int .i64 0] ∧ Blk U gp 38 #[.string x.id, .string x.name]) (by kernel_rfl) (by decide) (⟨HG1.out.bm, HBP.out⟩) (fun hHeld => ?_)
      refine ht_take 0 (v := ?vp_1) rfl (by kernel_rfl) (fun _ _ _ h => h) (Or.inl ⟨by rfl, ?hp_1⟩) hHeld ?rp_1
      case hp_1 => ((intro U hSw; have y5 : U.cell? ⟨gc + 1 + 1, 5, none⟩ = some (.slice AG ps.length cG) := hSw.1.cell 5; have z0 : U.cell? ⟨gp, 0, none⟩ = some (.string x.id) := hSw.2.cell 0; go_simp); (try (with_reducible rfl)))
      try simp only [Act.put, List.setIfInBounds_toArray, List.set_cons_zero, List.set_cons_succ]
      refine ht_take 1 (v := ?vp_2) rfl (by kernel_rfl) (fun _ _ _ h => h) (Or.inl ⟨by rfl, ?hp_2⟩) hHeld ?rp_2
      case hp_2 => ((intro U hSw; have y5 : U.cell? ⟨gc + 1 + 1, 5, none⟩ = some (.slice AG ps.length cG) := hSw.1.cell 5; have z0 : U.cell? ⟨gp, 0, none⟩ = some (.string x.id) := hSw.2.cell 0; go_simp); (try (with_reducible rfl)))
      try simp only [Act.put, List.setIfInBounds_toArray, List.set_cons_zero, List.set_cons_succ]
      refine ht_take 2 (v := ?vp_3) rfl (by kernel_rfl) (fun _ _ _ h => h) (Or.inl ⟨by rfl, ?hp_3⟩) hHeld ?rp_3
      case hp_3 => ((intro U hSw; have y5 : U.cell? ⟨gc + 1 + 1, 5, none⟩ = some (.slice AG ps.length cG) := hSw.1.cell 5; have z0 : U.cell? ⟨gp, 0, none⟩ = some (.string x.id) := hSw.2.cell 0; go_simp); (try (with_reducible rfl)))
      try simp only [Act.put, List.setIfInBounds_toArray, List.set_cons_zero, List.set_cons_succ]
      refine ht_take 3 (v := ?vp_4) rfl (by kernel_rfl) (fun _ _ _ h => h) (Or.inl ⟨by rfl, ?hp_4⟩) hHeld ?rp_4
      case hp_4 => ((intro U hSw; have y5 : U.cell? ⟨gc + 1 + 1, 5, none⟩ = some (.slice AG ps.length cG) := hSw.1.cell 5; have z0 : U.cell? ⟨gp, 0, none⟩ = some (.string x.id) := hSw.2.cell 0; go_simp); (try (with_reducible rfl)))
      try simp only [Act.put, List.setIfInBounds_toArray, List.set_cons_zero, List.set_cons_succ]
      refine ht_take 4 (v := ?vp_5) rfl (by kernel_rfl) (fun _ _ _ h => h) (Or.inl ⟨by rfl, ?hp_5⟩) hHeld ?rp_5
      case hp_5 => ((intro U hSw; have y5 : U.cell? ⟨gc + 1 + 1, 5, none⟩ = some (.slice AG ps.length cG) := hSw.1.cell 5; have z0 : U.cell? ⟨gp, 0, none⟩ = some (.string x.id) := hSw.2.cell 0; go_simp); (try (with_reducible rfl)))
      try simp only [Act.put, List.setIfInBounds_toArray, List.set_cons_zero, List.set_cons_succ]
      refine ht_take 5 (v := ?vp_6) rfl (by kernel_rfl) (fun _ _ _ h => h) (Or.inl ⟨by rfl, ?hp_6⟩) hHeld ?rp_6
      case hp_6 => ((intro U hSw; have y5 : U.cell? ⟨gc + 1 + 1, 5, none⟩ = some (.slice AG ps.length cG) := hSw.1.cell 5; have z0 : U.cell? ⟨gp, 0, none⟩ = some (.string x.id) := hSw.2.cell 0; go_simp); (try (with_reducible rfl)))
      try simp only [Act.put, List.setIfInBounds_toArray, List.set_cons_zero, List.set_cons_succ]
      refine ht_take 6 (v := ?vp_7) rfl (by kernel_rfl) (fun _ _ _ h => h) (Or.inl ⟨by rfl, ?hp_7⟩) hHeld ?rp_7
      case hp_7 => ((intro U hSw; have y5 : U.cell? ⟨gc + 1 + 1, 5, none⟩ = some (.slice AG ps.length cG) := hSw.1.cell 5; have z0 : U.cell? ⟨gp, 0, none⟩ = some (.string x.id) := hSw.2.cell 0; go_simp); (try (with_reducible rfl)))
      try simp only [Act.put, List.setIfInBounds_toArray, List.set_cons_zero, List.set_cons_succ]
      refine ht_take 7 (v := ?vp_8) rfl (by kernel_rfl) (fun _ _ _ h => h) (Or.inl ⟨by rfl, ?hp_8⟩) hHeld ?rp_8
      case hp_8 => ((intro U hSw; have y5 : U.cell? ⟨gc + 1 + 1, 5, none⟩ = some (.slice AG ps.length cG) := hSw.1.cell 5; have z0 : U.cell? ⟨gp, 0, none⟩ = some (.string x.id) := hSw.2.cell 0; go_simp); (try (with_reducible rfl)))
      try simp only [Act.put, List.setIfInBounds_toArray, List.set_cons_zero, List.set_cons_succ]
      refine ht_one 8 rfl (by kernel_rfl) (fun K hK => ?_)
      go_simp
      refine hK.out _ _ (⟨hHeld.1.alloc _, hHeld.2.alloc _⟩) (fun hHeld => ?_)
      clear hK K
      try simp only [Act.put, List.setIfInBounds_toArray, List.set_cons_zero, List.set_cons_succ]
      refine ht_one 9 rfl (by kernel_rfl) (fun K hK => ?_)
      refine step_append_lies _ (by rfl) (.tmp 22) (.tmp 25) _ (by rfl) w.heap.size 9 j0 _ 1 16 Try.underlying30 hj0 hy0 hy1 hy2 rfl (by omega) (.slice AG ps.length cG) ps.length (ps.map .string) (by rfl) ((own_below HG1.out.oG (Below.refl _ _).drew).alloc _) ⟨T1.heap.size, 0, none⟩ 1 1 [.string x.id] (by rfl) (by rfl) (World.news_of_block (cs := #[.string x.id]) (t := 9) (fr := (0, 0)) (heap_alloc_new T1.drew _)) (by simp [Value.oneCell']) (by omega) (by unfold maxLen; omega) (by omega) (by simp; omega) (T1.heap.size + 1) (by simp) ?_
      intro gA cap w2 hown hgrow hat hlt'
      refine hK.out _ _ (⟨hHeld.1.grown hgrow (Ne.symm (blk_own_ne (HG1.out.oG) HG1.out.bm (by decide))), hHeld.2.grown hgrow (Ne.symm (blk_own_ne HG1.out.oG HBP.out (by decide)))⟩) (fun hHeld => ?_)
      clear hK K
      try simp only [Act.put, List.setIfInBounds_toArray, List.set_cons_zero, List.set_cons_succ]
      refine ht_take 10 (v := ?vp_9) rfl (by kernel_rfl) (fun _ _ _ h => h) (Or.inl ⟨by rfl, ?hp_9⟩) hHeld ?rp_9
      case hp_9 => ((intro U hSw; have y5 : U.cell? ⟨gc + 1 + 1, 5, none⟩ = some (.slice AG ps.length cG) := hSw.1.cell 5; have z0 : U.cell? ⟨gp, 0, none⟩ = some (.string x.id) := hSw.2.cell 0; go_simp); (try (with_reducible rfl)))
      try simp only [Act.put, List.setIfInBounds_toArray, List.set_cons_zero, List.set_cons_succ]
      refine ht_take 11 (v := ?vp_10) rfl (by kernel_rfl) (fun _ _ _ h => h) (Or.inl ⟨by rfl, ?hp_10⟩) hHeld ?rp_10
      case hp_10 => ((intro U hSw; have y5 : U.cell? ⟨gc + 1 + 1, 5, none⟩ = some (.slice AG ps.length cG) := hSw.1.cell 5; have z0 : U.cell? ⟨gp, 0, none⟩ = some (.string x.id) := hSw.2.cell 0; go_simp); (try (with_reducible rfl)))
      try simp only [Act.put, List.setIfInBounds_toArray, List.set_cons_zero, List.set_cons_succ]
      refine ht_take 12 (v := ?vp_11) rfl (by kernel_rfl) (fun _ _ _ h => h) (Or.inl ⟨by rfl, ?hp_11⟩) hHeld ?rp_11
      case hp_11 => ((intro U hSw; have y5 : U.cell? ⟨gc + 1 + 1, 5, none⟩ = some (.slice AG ps.length cG) := hSw.1.cell 5; have z0 : U.cell? ⟨gp, 0, none⟩ = some (.string x.id) := hSw.2.cell 0; go_simp); (try (with_reducible rfl)))
      try simp only [Act.put, List.setIfInBounds_toArray, List.set_cons_zero, List.set_cons_succ]
      refine ht_done (by kernel_rfl) rfl ?_
      have hG2 := (HG1.out.below (Below.refl _ _).drew).name HGC.out hown hgrow hat
      have y5 : w2.cell? ⟨gc + 1 + 1, 5, none⟩ = some (.slice AG ps.length cG) := hHeld.1.cell 5
      have q5 : w2.frozen? ⟨gc + 1 + 1, 5, none⟩ = false := hHeld.1.frozen 5
      have hl2 := hHeld.1.lt
      have HG2 := Lib.hid hG2
      clear hG2 hown hgrow hat hHeld
      go_wp2_with fail
      go_roundw
      case rel => exact ⟨k + 1, _, by omega, by go_num, by rw [HST.out]; exact HG2.out⟩
      case measure => simp [intOf]; omega
    · have hkl : k = c.parts.length := by omega
      rw [hkl, List.take_length] at hG
      have HG := Lib.hid hG
      clear hG hkl
      go_upto_region 7 with fail
      obtain ⟨ps, hps⟩ : ∃ l, l = c.parts.map (·.id) := ⟨_, rfl⟩
      have hr := HR.out
      rw [← hps] at hr HG
      have hpsl : ps.length ≤ 1000000 := by rw [hps]; simp; omega
      obtain ⟨AG, cG, rfl, _, _⟩ := own_slice HG.out.oG
      obtain ⟨C, hC⟩ : ∃ C : FC, C = ⟨c, AP, cP, AF, cF, AI, cI, AS, cS, ps, AG, cG⟩ := ⟨_, rfl⟩
      have hCs : ∀ gM gN gE e, C.cells gM gN gE e = #[.string c.id, .slice AP c.parts.length cP, .slice AF c.flows.length cF, .slice AI c.items.length cI, .slice AS c.seqs.length cS, .slice AG ps.length cG, gM, gN, gE, .int .i64 e] := by rw [hC]; intro _ _ _ _; rfl
      have hCp : C.ps = ps := by rw [hC]
      have hCf : C.c.flows = c.flows := by rw [hC]
      have hm : gc + 1 + 1 < V.heap.size := HG.out.bm.lt
      have hfd : FD C V (gc + 1 + 1) := by
        rw [hC]
        exact ⟨⟨_, HG.out.bm⟩, Rd.below HG.out.bel _ _ HC.out.flows, rd_of_strs HG.out.oG, hfl, hpsl⟩
      have hFW : FW C V (gc + 1 + 1) ⟨[], [], [], 0⟩ V := by
        refine ⟨.slice none 0 0, .slice none 0 0, .slice none 0 0, ⟨rfl, rfl, rfl, Nat.le_refl _, fun _ _ _ => rfl⟩, ?_, World.ownsRow_nil _ _ _ _, World.ownsRow_nil _ _ _ _, World.ownsRow_nil _ _ _ _⟩
        rw [hCs]
        exact HG.out.bm
      have hlev := flevel_ok hm hfd f false c.items c.seqs ⟨[], [], [], 0⟩ r.1 r.2 V _ _ (by rw [hCp, hCf]; exact hr) (by rw [HRS.out]; exact HS.out) hFW hil hll (Rd.below HG.out.bel _ _ HC.out.items) (Rd.below HG.out.bel _ _ HC.out.seqs)
      have HLEV := Lib.hid hlev
      have HCS := Lib.hid hCs
      have i3 : V.cell? ⟨gc, 3, none⟩ = some (.slice AI c.items.length cI) := HG.out.bc.cell 3
      have i4 : V.cell? ⟨gc, 4, none⟩ = some (.slice AS c.seqs.length cS) := HG.out.bc.cell 4
      have HPS := Lib.hid hps
      have HFD := Lib.hid hfd
      have hnm : ∀ (W' : World) (s : FS) (gM gN gE : Value), FX C V (gc + 1 + 1) s gM gN gE W' → Rd W' (strsD ps) (.slice AG ps.length cG) := by
        intro W' s gM gN gE h
        have h2 := h.names hfd
        rw [hC] at h2
        exact h2
      have HNM := Lib.hid hnm
      have h22 : r.2 = s := HRS.out
      clear hr hC hCs hCp hCf hfd hFW hlev hps hnm
      go_wp2_with fail
      refine HLEV.out.mono ?_
      rintro e w3 ⟨rfl, ⟨gM, gN, gE, hX⟩, hc3⟩
      rw [h22] at hX
      have hbm : Blk w3 (gc + 1 + 1) 95 #[.string c.id, .slice AP c.parts.length cP, .slice AF c.flows.length cF, .slice AI c.items.length cI, .slice AS c.seqs.length cS, .slice AG ps.length cG, gM, gN, gE, .int .i64 s.e] := by have := hX.b; rw [HCS.out] at this; exact this
      have hbg := HG.out.bg.ch hc3 (by decide)
      have hb3 : Below w.heap.size w w3 := ⟨hX.kept.os.trans HG.out.bel.os, hX.kept.tape.trans HG.out.bel.tape, hX.kept.output.trans HG.out.bel.output, Nat.le_trans HG.out.bel.size hX.kept.size, fun b hb => (hX.kept.block b (Nat.lt_of_lt_of_le hb HG.out.bel.size) (by have := HGC.out; intro e; injection e with e; omega)).trans (HG.out.bel.block b hb)⟩
      obtain ⟨AM, cM, rfl, _, _⟩ := own_slice hX.oM
      obtain ⟨AN, cN, rfl, _, _⟩ := own_slice hX.oN
      obtain ⟨AE, cE, rfl, _, _⟩ := own_slice hX.oE
      have y5 : w3.cell? ⟨gc + 1 + 1, 5, none⟩ = some (.slice AG ps.length cG) := hbm.cell 5
      have y6 : w3.cell? ⟨gc + 1 + 1, 6, none⟩ = some (.slice AM s.msgs.length cM) := hbm.cell 6
      have y7 : w3.cell? ⟨gc + 1 + 1, 7, none⟩ = some (.slice AN s.nodes.length cN) := hbm.cell 7
      have y8 : w3.cell? ⟨gc + 1 + 1, 8, none⟩ = some (.slice AE s.edges.length cE) := hbm.cell 8
      have y9 : w3.cell? ⟨gc + 1 + 1, 9, none⟩ = some (.int .i64 s.e) := hbm.cell 9
      have z0 : w3.cell? ⟨gc + 1, 0, none⟩ = some (.slice none 0 0) := hbg.cell 0
      have f0 : w3.frozen? ⟨gc + 1, 0, none⟩ = false := hbg.frozen 0
      have z1 : w3.cell? ⟨gc + 1, 1, none⟩ = some (.slice none 0 0) := hbg.cell 1
      have f1 : w3.frozen? ⟨gc + 1, 1, none⟩ = false := hbg.frozen 1
      have z2 : w3.cell? ⟨gc + 1, 2, none⟩ = some (.slice none 0 0) := hbg.cell 2
      have f2 : w3.frozen? ⟨gc + 1, 2, none⟩ = false := hbg.frozen 2
      have z3 : w3.cell? ⟨gc + 1, 3, none⟩ = some (.slice none 0 0) := hbg.cell 3
      have f3 : w3.frozen? ⟨gc + 1, 3, none⟩ = false := hbg.frozen 3
      have hgl := hbg.lt
      have hml := hbm.lt
      have HX := Lib.hid hX
      have HBM := Lib.hid hbm
      have HBG := Lib.hid hbg
      have HB3 := Lib.hid hb3
      have HH22 := Lib.hid h22
      clear hX hbm hbg hb3 hc3 i3 i4 h22
      by_cases he : s.e = 0
      · have heb : (s.e == 0) = true := by simp [he]
        have hfin : Blk _ _ 44 #[.slice AG ps.length cG, .slice AM s.msgs.length cM, .slice AN s.nodes.length cN, .slice AE s.edges.length cE] := ((((HBG.out.set_ 0 (.slice AG ps.length cG)).set_ 1 (.slice AM s.msgs.length cM)).set_ 2 (.slice AN s.nodes.length cN)).set_ 3 (.slice AE s.edges.length cE))
        have hbF : Below w.heap.size w _ := ((((HB3.out.setCell (p := ⟨gc + 1, 0, none⟩) (by show w.heap.size ≤ gc + 1; have := HGC.out; omega) (.slice AG ps.length cG)).setCell (p := ⟨gc + 1, 1, none⟩) (by show w.heap.size ≤ gc + 1; have := HGC.out; omega) (.slice AM s.msgs.length cM)).setCell (p := ⟨gc + 1, 2, none⟩) (by show w.heap.size ≤ gc + 1; have := HGC.out; omega) (.slice AN s.nodes.length cN)).setCell (p := ⟨gc + 1, 3, none⟩) (by show w.heap.size ≤ gc + 1; have := HGC.out; omega) (.slice AE s.edges.length cE))
        have hnm := HNM.out w3 _ _ _ _ HX.out
        have hR := And.intro (rd_set4 hnm HBG.out (free_strs _ (by decide) _) (.slice AG ps.length cG) (.slice AM s.msgs.length cM) (.slice AN s.nodes.length cN) (.slice AE s.edges.length cE)) (And.intro (rd_set4 (rd_of_strs HX.out.oM) HBG.out (free_strs _ (by decide) _) (.slice AG ps.length cG) (.slice AM s.msgs.length cM) (.slice AN s.nodes.length cN) (.slice AE s.edges.length cE)) (And.intro (rd_set4 (rd_of_nodes HX.out.oN) HBG.out (free_nodes _ (by decide) _) (.slice AG ps.length cG) (.slice AM s.msgs.length cM) (.slice AN s.nodes.length cN) (.slice AE s.edges.length cE)) (rd_set4 (rd_of_edges HX.out.oE) HBG.out (free_edges _ (by decide) _) (.slice AG ps.length cG) (.slice AM s.msgs.length cM) (.slice AN s.nodes.length cN) (.slice AE s.edges.length cE))))
        have HFIN := Lib.hid hfin
        have HBF := Lib.hid hbF
        have HRF := Lib.hid hR
        have HE := Lib.hid he
        clear hfin hbF hR hnm he
        go_wp2_with fail
        exact bodyPost_ret (ret_graph HFIN.out rfl rfl) rfl ⟨HBF.out, .inr ⟨HE.out, _, _, _, _, rfl, by rw [← HPS.out]; exact HRF.out.1, HRF.out.2.1, HRF.out.2.2.1, HRF.out.2.2.2⟩⟩
      · have heb : (s.e == 0) = false := by simp [he]
        have hfin : Blk _ _ 44 #[.slice none 0 0, .slice none 0 0, .slice none 0 0, .slice none 0 0] := ((((HBG.out.drew.set_ 0 (.slice none 0 0)).set_ 1 (.slice none 0 0)).set_ 2 (.slice none 0 0)).set_ 3 (.slice none 0 0))
        have hbF : Below w.heap.size w _ := ((((HB3.out.drew.setCell (p := ⟨gc + 1, 0, none⟩) (by show w.heap.size ≤ gc + 1; have := HGC.out; omega) (.slice none 0 0)).setCell (p := ⟨gc + 1, 1, none⟩) (by show w.heap.size ≤ gc + 1; have := HGC.out; omega) (.slice none 0 0)).setCell (p := ⟨gc + 1, 2, none⟩) (by show w.heap.size ≤ gc + 1; have := HGC.out; omega) (.slice none 0 0)).setCell (p := ⟨gc + 1, 3, none⟩) (by show w.heap.size ≤ gc + 1; have := HGC.out; omega) (.slice none 0 0))
        have HFIN := Lib.hid hfin
        have HBF := Lib.hid hbF
        have HE := Lib.hid he
        clear hfin hbF he
        go_upto_region 9 with fail
        refine wp_region_HT 6 (fun U => Blk U (gc + 1 + 1) 95 #[.string c.id, .slice AP c.parts.length cP, .slice AF c.flows.length cF, .slice AI c.items.length cI, .slice AS c.seqs.length cS, .slice AG ps.length cG, .slice AM s.msgs.length cM, .slice AN s.nodes.length cN, .slice AE s.edges.length cE, .int .i64 s.e]) (by kernel_rfl) (by decide) (HBM.out) (fun hHeld => ?_)
        refine ht_take 0 (v := ?vq_1) rfl (by kernel_rfl) (fun _ _ _ h => h) (Or.inl ⟨by rfl, ?hq_1⟩) hHeld ?rq_1
        case hq_1 => ((intro U hSw; have y9 : U.cell? ⟨gc + 1 + 1, 9, none⟩ = some (.int .i64 s.e) := hSw.cell 9; go_simp); (try (with_reducible rfl)))
        try simp only [Act.put, List.setIfInBounds_toArray, List.set_cons_zero, List.set_cons_succ]
        refine ht_take 1 (v := ?vq_2) rfl (by kernel_rfl) (fun _ _ _ h => h) (Or.inl ⟨by rfl, ?hq_2⟩) hHeld ?rq_2
        case hq_2 => ((intro U hSw; have y9 : U.cell? ⟨gc + 1 + 1, 9, none⟩ = some (.int .i64 s.e) := hSw.cell 9; go_simp); (try (with_reducible rfl)))
        try simp only [Act.put, List.setIfInBounds_toArray, List.set_cons_zero, List.set_cons_succ]
        refine ht_take 2 (v := ?vq_3) rfl (by kernel_rfl) (fun _ _ _ h => h) (Or.inl ⟨by rfl, ?hq_3⟩) hHeld ?rq_3
        case hq_3 => ((intro U hSw; have y9 : U.cell? ⟨gc + 1 + 1, 9, none⟩ = some (.int .i64 s.e) := hSw.cell 9; go_simp); (try (with_reducible rfl)))
        try simp only [Act.put, List.setIfInBounds_toArray, List.set_cons_zero, List.set_cons_succ]
        refine ht_take 3 (v := ?vq_4) rfl (by kernel_rfl) (fun _ _ _ h => h) (Or.inl ⟨by rfl, ?hq_4⟩) hHeld ?rq_4
        case hq_4 => ((intro U hSw; have y9 : U.cell? ⟨gc + 1 + 1, 9, none⟩ = some (.int .i64 s.e) := hSw.cell 9; go_simp); (try (with_reducible rfl)))
        try simp only [Act.put, List.setIfInBounds_toArray, List.set_cons_zero, List.set_cons_succ]
        refine ht_take 4 (v := ?vq_5) rfl (by kernel_rfl) (fun _ _ _ h => h) (Or.inl ⟨by rfl, ?hq_5⟩) hHeld ?rq_5
        case hq_5 => ((intro U hSw; have y9 : U.cell? ⟨gc + 1 + 1, 9, none⟩ = some (.int .i64 s.e) := hSw.cell 9; go_simp); (try (with_reducible rfl)))
        try simp only [Act.put, List.setIfInBounds_toArray, List.set_cons_zero, List.set_cons_succ]
        refine ht_one 5 rfl (by kernel_rfl) (fun K hK => ?_)
        go_simp
        refine hK.out _ _ (((((hHeld.far (p := ⟨gc + 1, 0, none⟩) (by show gc + 1 + 1 ≠ gc + 1; omega) (.slice none 0 0)).far (p := ⟨gc + 1, 1, none⟩) (by show gc + 1 + 1 ≠ gc + 1; omega) (.slice none 0 0)).far (p := ⟨gc + 1, 2, none⟩) (by show gc + 1 + 1 ≠ gc + 1; omega) (.slice none 0 0)).far (p := ⟨gc + 1, 3, none⟩) (by show gc + 1 + 1 ≠ gc + 1; omega) (.slice none 0 0))) (fun hHeld => ?_)
        clear hK K
        try simp only [Act.put, List.setIfInBounds_toArray, List.set_cons_zero, List.set_cons_succ]
        refine ht_done (by kernel_rfl) rfl ?_
        go_wp2_with fail
        exact bodyPost_ret (ret_graph HFIN.out rfl rfl) rfl ⟨HBF.out, .inl ⟨HE.out, rfl⟩⟩
end Go.Proofs.Yteoioboiniealaa
