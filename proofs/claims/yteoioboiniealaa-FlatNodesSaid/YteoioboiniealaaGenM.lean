/- The contract of the generator's Nested. -/
import Derived.Test.YteoioboiniealaaGenQ
import Derived.Deep.LoopGhost
import Derived.Deep.CutBlock
namespace Go.Proofs.Yteoioboiniealaa
open Go.RowKit
attribute [local go_sem ↓] Go.wp_at_zero Go.wp_at_succ

/-- What stays as it is while a nested document is made: where it lies. -/
structure NF where
  g5 : Nat
  g6 : Nat
  g7 : Nat
  A1 : Option Addr
  c1 : Nat
  v5 : Value
  cid : ByteArray
  x : ChorD
  XP : Option Addr
  kP : Nat
  XF : Option Addr
  kF : Nat
  XI : Option Addr
  kI : Nat
  XS : Option Addr
  kS : Nat
/-- How memory stands while a nested document is made. -/
structure NS (w : World) (f : NF) (P : List PartD) (F : List FlowD) (I : List ItemD) (S : List SeqD) (AP : Option Addr) (cP : Nat) (AF : Option Addr) (cF : Nat) (AI : Option Addr) (cI : Nat) (AS : Option Addr) (cS : Nat) (W : World) : Prop where
  o : w.heap.size < f.g5 ∧ f.g5 < f.g6 ∧ f.g6 < f.g7
  bel : Below w.heap.size w W
  k4 : Blk W w.heap.size 61 #[.slice none 0 0, .slice none 0 0]
  k5 : Blk W f.g5 61 #[.slice f.A1 4 f.c1, f.v5]
  k6 : Blk W f.g6 28 #[.string f.x.id, .slice f.XP f.x.parts.length f.kP, .slice f.XF f.x.flows.length f.kF, .slice f.XI f.x.items.length f.kI, .slice f.XS f.x.seqs.length f.kS]
  k7 : Blk W f.g7 28 #[.string f.cid, .slice AP P.length cP, .slice AF F.length cF, .slice AI I.length cI, .slice AS S.length cS]
  cc : Comp W P F I S AP cP AF cF AI cI AS cS
  cx : Comp W f.x.parts f.x.flows f.x.items f.x.seqs f.XP f.kP f.XF f.kF f.XI f.kI f.XS f.kS
  ms : Rd W (msgsD gmsgsF) (.slice f.A1 4 f.c1)
section
variable {w W W' : World} {f : NF} {P P' : List PartD} {F F' : List FlowD} {I I' : List ItemD} {S S' : List SeqD} {AP AP' : Option Addr} {cP cP' : Nat} {AF AF' : Option Addr} {cF cF' : Nat} {AI AI' : Option Addr} {cI cI' : Nat} {AS AS' : Option Addr} {cS cS' : Nat}
/-- c's block is written, and new ones. -/
theorem NS.step (h : NS w f P F I S AP cP AF cF AI cI AS cS W) (hg : W.grownBy W' (some f.g7)) (k7 : Blk W' f.g7 28 #[.string f.cid, .slice AP' P'.length cP', .slice AF' F'.length cF', .slice AI' I'.length cI', .slice AS' S'.length cS'])
    (cc : Comp W' P' F' I' S' AP' cP' AF' cF' AI' cI' AS' cS') : NS w f P' F' I' S' AP' cP' AF' cF' AI' cI' AS' cS' W' := by
  obtain ⟨h1, h2, h3⟩ := h.o
  exact ⟨h.o, h.bel.grown hg h.bel.size (fun k hk => by injection hk with hk; omega), h.k4.grown hg (by simp; omega), h.k5.grown hg (by simp; omega), h.k6.grown hg (by simp; omega), k7, cc, h.cx.grownT 28 (.inl rfl) hg h.k7, Rd.grown hg h.k7 _ _ (free_msgs _ (by decide) _) h.ms⟩
theorem NS.below (h : NS w f P F I S AP cP AF cF AI cI AS cS W) (hb : Below W.heap.size W W') : NS w f P F I S AP cP AF cF AI cI AS cS W' :=
  ⟨h.o, h.bel.trans (hb.mono h.bel.size), h.k4.below hb h.k4.lt, h.k5.below hb h.k5.lt, h.k6.below hb h.k6.lt, h.k7.below hb h.k7.lt, h.cc.below hb, h.cx.below hb, Rd.below hb _ _ h.ms⟩
theorem set_grown {T : World} {g i : Nat} (hb : Below W.heap.size W T) (u : Value) : W.grownBy (T.setCell ⟨g, i, none⟩ u) (some g) :=
  grown_grow (grown_below (below_grown _) hb) (only_setQ u) (fun _ hk => .inr hk)
end
/-- The participants so far. -/
def gmoreI (l : List PartD) (i : Nat) : List PartD := l ++ (List.range i).map (fun j => ⟨gpn (l.length + j), ⟨#[]⟩⟩)
theorem gmoreI_len (l : List PartD) (i : Nat) : (gmoreI l i).length = l.length + i := by simp [gmoreI]
theorem gmoreI_succ (l : List PartD) (i : Nat) : gmoreI l (i + 1) = gmoreI l i ++ [⟨gpn (gmoreI l i).length, ⟨#[]⟩⟩] := by
  rw [gmoreI_len]
  simp [gmoreI, List.range_succ]
theorem Try.infoMapG : (Try.prog.info? 73).map (fun i => (i.zero, i.size, i.bytes)) = some (some (.agg #[.string ⟨#[]⟩, .string ⟨#[]⟩]), 2, 32) := by kernel_rfl
/-- Which participant stands for which: the cells. -/
def rowMp (xs ps : List PartD) (pk n : Nat) : List Value := (List.range n).flatMap fun i => [.string (xs.getD i ⟨⟨#[]⟩, ⟨#[]⟩⟩).id, .string (ps.getD ((i + pk) % ps.length) ⟨⟨#[]⟩, ⟨#[]⟩⟩).id]
theorem rowMp_succ (xs ps : List PartD) (pk n : Nat) : rowMp xs ps pk (n + 1) = rowMp xs ps pk n ++ [.string (xs.getD n ⟨⟨#[]⟩, ⟨#[]⟩⟩).id, .string (ps.getD ((n + pk) % ps.length) ⟨⟨#[]⟩, ⟨#[]⟩⟩).id] := by
  unfold rowMp
  rw [List.range_succ, List.flatMap_append]
  simp
def gmapsF (xs ps : List PartD) (pk n : Nat) : List MapD := (List.range n).map fun i => ⟨(xs.getD i ⟨⟨#[]⟩, ⟨#[]⟩⟩).id, (ps.getD ((i + pk) % ps.length) ⟨⟨#[]⟩, ⟨#[]⟩⟩).id⟩
theorem gmapsF_len (xs ps : List PartD) (pk n : Nat) : (gmapsF xs ps pk n).length = n := by simp [gmapsF]
theorem rowMp_rd (w : World) (xs ps : List PartD) (pk : Nat) : ∀ n, RdL w ((gmapsF xs ps pk n).flatMap mapC) (rowMp xs ps pk n)
  | 0 => rdl_nil.2 rfl
  | n + 1 => by
    rw [rowMp_succ]
    unfold gmapsF
    rw [List.range_succ, List.map_append, List.flatMap_append]
    exact (rowMp_rd w xs ps pk n).append (rdl_cons.2 ⟨_, _, rfl, rd_str.2 rfl, rdl_cons.2 ⟨_, _, rfl, rd_str.2 rfl, rdl_nil.2 rfl⟩⟩)
theorem flat3_len (ss : List SeqD) : (ss.flatMap seqC).length = ss.length * 3 := by
  induction ss with
  | nil => rfl
  | cons x l ih => rw [List.flatMap_cons, List.length_append, ih, List.length_cons]; simp [seqC]; omega
theorem own_frozen {w : World} {base e size n g cap : Nat} {xs : List Value} (h : w.ownsRow base e size (.slice (some ⟨g, 0, none⟩) n cap) n xs) (j : Nat) : w.frozen? ⟨g, j, none⟩ = false := by
  rcases h.2 with ⟨h0, _⟩ | ⟨g', c', cur, hv, _, hg, _⟩
  · cases h0
  · injection hv with e1 _ _
    injection e1 with e1
    injection e1 with e1
    subst e1
    simp [World.frozen?, hg]
theorem ret_nestG {W : World} {g : Nat} {v0 v1 : Value} {tmps : Array Value} (h : Blk W g 61 #[v0, v1]) (ht : tmps.getD 4 undef = .pointer (some ⟨g, 0, none⟩)) :
    (results Try.f16 tmps).run Try.prog W = .ok (.agg #[v0, v1]) W := by
  have x0 : W.cell? ⟨g, 0, none⟩ = some v0 := h.cell 0
  have x1 : W.cell? ⟨g, 1, none⟩ = some v1 := h.cell 1
  simp [results, Try.results16, go_sem, ht, x0, x1, -Array.getD_eq_getD_getElem?]

set_option maxRecDepth 100000 in
set_option maxHeartbeats 16000000 in
theorem nested_genN {w : World} {A : Option Addr} {cap : Nat} {p : List Int} {B : Option Addr} {capq : Nat} {q : List Int} (hp : IntsAt w A p) (hl : p.length ≤ maxLen) (hq : IntsAt w B q) (hlq : q.length ≤ maxLen) :
    Calls Try.prog 16 #[.slice A p.length cap, .slice B q.length capq] w (DocEndN w (gnestedF p q)) := by
  obtain ⟨pi0, hpi0, hpz0, hpz1, hpz2⟩ := info_parts Try.infoPartG
  obtain ⟨c, hc⟩ : ∃ c, c = gchorF p ⟨#[99]⟩ ⟨#[]⟩ := ⟨_, rfl⟩
  obtain ⟨x, hx⟩ : ∃ x, x = gchorF q ⟨#[100]⟩ ⟨#[120]⟩ := ⟨_, rfl⟩
  have hcf := gchor_facts p hl ⟨#[99]⟩ ⟨#[]⟩ (by decide)
  have hxf := gchor_facts q hlq ⟨#[100]⟩ ⟨#[120]⟩ (by decide)
  rw [← hc] at hcf
  rw [← hx] at hxf
  have hcid : c.id = ⟨#[99]⟩ := by rw [hc]; rfl
  have hxid : x.id = ⟨#[100]⟩ := by rw [hx]; rfl
  have hd : gdocF p = ⟨gmsgsF, [c]⟩ := by rw [hc]; rfl
  have hnd : gnestedF p q = ⟨gmsgsF, [⟨c.id, gmoreF x.parts.length c.parts, c.flows ++ (ginF q (gmoreF x.parts.length c.parts)).flows, c.items ++ [gcallF x (gmoreF x.parts.length c.parts) q, gsubF (ginF q (gmoreF x.parts.length c.parts))], gseqsF c.seqs⟩, x]⟩ := by rw [hc, hx]; rfl
  have HC := Lib.hid hc
  have HX := Lib.hid hx
  have HD := Lib.hid hd
  have HND := Lib.hid hnd
  have HCI := Lib.hid hcid
  have HXI := Lib.hid hxid
  have HP := Lib.hid hp
  have HLP := Lib.hid hl
  have HQ := Lib.hid hq
  have HLQ := Lib.hid hlq
  obtain ⟨hc2, hc4, hcF, hcI, hcS, hcS1⟩ := hcf
  obtain ⟨hx2, hx4, hxF, hxI, hxS, hxS1⟩ := hxf
  obtain ⟨W0, hW0⟩ : ∃ W, W = w.alloc (.cells #[.slice none 0 0, .slice none 0 0] 61) := ⟨_, rfl⟩
  have b0 : Below w.heap.size w W0 := by rw [hW0]; exact (Below.refl _ _).alloc (Nat.le_refl _) _
  have k0 : Blk W0 w.heap.size 61 #[.slice none 0 0, .slice none 0 0] := by rw [hW0]; exact Blk.new _ _ _
  have HW0 := Lib.hid hW0.symm
  have HB0 := Lib.hid b0
  have HK0 := Lib.hid k0
  clear hc hx hd hnd hcid hxid hp hl hq hlq hW0 b0 k0
  go_enter Try.func16, Try.ntmps16
  go_upto_region 1 with fail
  rw [HW0.out]
  go_wp2_with fail
  refine (doc_gen (HP.out.below HB0.out) HLP.out).mono ?_
  rintro e w1 hE1
  rw [HD.out] at hE1
  obtain ⟨A1, c1, B1, k1, rfl, hms, hch, hb1⟩ := hE1
  have hbel1 := HB0.out.trans (hb1.mono HB0.out.size)
  have hk1 := HK0.out.below hb1 HK0.out.lt
  obtain ⟨A2, c2, hv2, _, _, hat⟩ := rd_at chorC_len hch
  injection hv2 with e1 _ e3
  subst e1
  subst e3
  obtain ⟨bc, vs, rfl, hbc, _, hvs, hcell⟩ := hat 0 (by simp)
  obtain ⟨vP, vF, vI, vS, rfl, hV⟩ := rd_chorC.1 hvs
  simp only [List.getElem_cons_zero] at hV hcell
  obtain ⟨AP, cP, rfl⟩ := rd_form hV.1
  obtain ⟨AF, cF, rfl⟩ := rd_form hV.2.1
  obtain ⟨AI, cI, rfl⟩ := rd_form hV.2.2.1
  obtain ⟨AS, cS, rfl⟩ := rd_form hV.2.2.2
  have hcc1 : Comp w1 c.parts c.flows c.items c.seqs AP cP AF cF AI cI AS cS := ⟨hV.1, hV.2.1, hV.2.2.1, hV.2.2.2⟩
  rw [HCI.out] at hcell
  have x0 : w1.cell? ⟨bc, 0, none⟩ = some (.string ⟨#[99]⟩) := hcell 0 (by omega)
  have x1 : w1.cell? ⟨bc, 1, none⟩ = some (.slice AP c.parts.length cP) := hcell 1 (by omega)
  have x2 : w1.cell? ⟨bc, 2, none⟩ = some (.slice AF c.flows.length cF) := hcell 2 (by omega)
  have x3 : w1.cell? ⟨bc, 3, none⟩ = some (.slice AI c.items.length cI) := hcell 3 (by omega)
  have x4 : w1.cell? ⟨bc, 4, none⟩ = some (.slice AS c.seqs.length cS) := hcell 4 (by omega)
  have HMS := Lib.hid hms
  have HBE1 := Lib.hid hbel1
  have HK1 := Lib.hid hk1
  have HCC1 := Lib.hid hcc1
  have HX0 := Lib.hid x0
  have HX1 := Lib.hid x1
  have HX2 := Lib.hid x2
  have HX3 := Lib.hid x3
  have HX4 := Lib.hid x4
  obtain ⟨g5, hg5⟩ : ∃ g, g = w1.heap.size := ⟨_, rfl⟩
  obtain ⟨V1, hV1⟩ : ∃ V, V = w1.alloc (.cells #[.slice A1 4 c1, .slice (some ⟨bc, 0, none⟩) 1 k1] 61) := ⟨_, rfl⟩
  have b11 : Below w1.heap.size w1 V1 := by rw [hV1]; exact (Below.refl _ _).alloc (Nat.le_refl _) _
  have k5 : Blk V1 g5 61 #[.slice A1 4 c1, .slice (some ⟨bc, 0, none⟩) 1 k1] := by rw [hV1, hg5]; exact Blk.new _ _ _
  have HB11 := Lib.hid b11
  have HK5 := Lib.hid k5
  have HV1 := Lib.hid hV1.symm
  have HG5 := Lib.hid hg5.symm
  have hbc1 : bc < V1.heap.size := by have := b11.size; omega
  have hg5w : w.heap.size < g5 := by rw [hg5]; exact hk1.lt
  clear hms hch hb1 hbel1 hk1 hat hvs hcell hV hcc1 x0 x1 x2 x3 x4 hV1 hg5 b11 k5
  go_upto_region 2 with fail
  rw [show (gmsgsF.length : Nat) = 4 from rfl]
  rw [HV1.out, HG5.out]
  go_wp2_with fail
  refine (chor_gen (HQ.out.below (HBE1.out.trans (HB11.out.mono HBE1.out.size))) HLQ.out ⟨#[100]⟩ ⟨#[120]⟩ (by decide)).mono ?_
  rintro e w2 hE2
  rw [← HX.out] at hE2
  obtain ⟨XP, kP, XF, kF, XI, kI, XS, kS, rfl, hcx2, hb2⟩ := hE2
  rw [HXI.out]
  obtain ⟨g6, hg6⟩ : ∃ g, g = w2.heap.size := ⟨_, rfl⟩
  obtain ⟨V2, hV2⟩ : ∃ V, V = w2.alloc (.cells #[.string ⟨#[100]⟩, .slice XP x.parts.length kP, .slice XF x.flows.length kF, .slice XI x.items.length kI, .slice XS x.seqs.length kS] 28) := ⟨_, rfl⟩
  have b22 : Below w2.heap.size w2 V2 := by rw [hV2]; exact (Below.refl _ _).alloc (Nat.le_refl _) _
  have k6 : Blk V2 g6 28 #[.string ⟨#[100]⟩, .slice XP x.parts.length kP, .slice XF x.flows.length kF, .slice XI x.items.length kI, .slice XS x.seqs.length kS] := by rw [hV2, hg6]; exact Blk.new _ _ _
  have b12 : Below V1.heap.size V1 V2 := hb2.trans (b22.mono hb2.size)
  have hcx := hcx2.below b22
  have HB12 := Lib.hid b12
  have HK6 := Lib.hid k6
  have HCX := Lib.hid hcx
  have HV2 := Lib.hid hV2.symm
  have HG6 := Lib.hid hg6.symm
  have hg56 : g5 < g6 := by rw [hg6]; have := HK5.out.lt; have := hb2.size; omega
  have hk52 := HK5.out.below b12 HK5.out.lt
  have y50 : V2.cell? ⟨g5, 0, none⟩ = some (.slice A1 4 c1) := hk52.cell 0
  have y51 : V2.cell? ⟨g5, 1, none⟩ = some (.slice (some ⟨bc, 0, none⟩) 1 k1) := hk52.cell 1
  have x0 := (b12.cell (p := ⟨bc, 0, none⟩) hbc1).trans ((HB11.out.cell (p := ⟨bc, 0, none⟩) hbc).trans HX0.out)
  have x1 := (b12.cell (p := ⟨bc, 1, none⟩) hbc1).trans ((HB11.out.cell (p := ⟨bc, 1, none⟩) hbc).trans HX1.out)
  have x2 := (b12.cell (p := ⟨bc, 2, none⟩) hbc1).trans ((HB11.out.cell (p := ⟨bc, 2, none⟩) hbc).trans HX2.out)
  have x3 := (b12.cell (p := ⟨bc, 3, none⟩) hbc1).trans ((HB11.out.cell (p := ⟨bc, 3, none⟩) hbc).trans HX3.out)
  have x4 := (b12.cell (p := ⟨bc, 4, none⟩) hbc1).trans ((HB11.out.cell (p := ⟨bc, 4, none⟩) hbc).trans HX4.out)
  clear hcx2 hb2 hV2 hg6 b22 k6 b12 hcx hk52
  go_upto_region 3 with fail
  rw [HV2.out, HG6.out]
  obtain ⟨g7, hg7⟩ : ∃ g, g = V2.heap.size := ⟨_, rfl⟩
  obtain ⟨V3, hV3⟩ : ∃ V, V = V2.alloc (.cells #[.string ⟨#[99]⟩, .slice AP c.parts.length cP, .slice AF c.flows.length cF, .slice AI c.items.length cI, .slice AS c.seqs.length cS] 28) := ⟨_, rfl⟩
  have b23 : Below V2.heap.size V2 V3 := by rw [hV3]; exact (Below.refl _ _).alloc (Nat.le_refl _) _
  have k7 : Blk V3 g7 28 #[.string ⟨#[99]⟩, .slice AP c.parts.length cP, .slice AF c.flows.length cF, .slice AI c.items.length cI, .slice AS c.seqs.length cS] := by rw [hV3, hg7]; exact Blk.new _ _ _
  obtain ⟨f, hf⟩ : ∃ f : NF, f = ⟨g5, g6, g7, A1, c1, .slice (some ⟨bc, 0, none⟩) 1 k1, ⟨#[99]⟩, x, XP, kP, XF, kF, XI, kI, XS, kS⟩ := ⟨_, rfl⟩
  have b13 := HB12.out.trans (b23.mono HB12.out.size)
  have b03 := HB11.out.trans (b13.mono HB11.out.size)
  have hbel3 := HBE1.out.trans (b03.mono HBE1.out.size)
  have hNS : NS w f c.parts c.flows c.items c.seqs AP cP AF cF AI cI AS cS V3 := by
    rw [hf]
    refine ⟨⟨hg5w, hg56, by show g6 < g7; rw [hg7]; exact HK6.out.lt⟩, hbel3, HK1.out.below b03 HK1.out.lt, HK5.out.below b13 HK5.out.lt, ?_, k7, HCC1.out.below b03, HCX.out.below b23, Rd.below b03 _ _ HMS.out⟩
    have := HK6.out.below b23 HK6.out.lt
    rw [← HXI.out] at this
    exact this
  have HNS := Lib.hid hNS
  have HV3 := Lib.hid hV3.symm
  have HG7 := Lib.hid hg7.symm
  have HF := Lib.hid hf
  clear hV3 hg7 b23 k7 b13 b03 hbel3 hNS
  go_upto_region 4 with fail
  rw [HV3.out, HG7.out]
  clear x0 x1 x2 x3 x4 y50 y51
  have e5 : g5 = f.g5 := by rw [hf]
  have e6 : g6 = f.g6 := by rw [hf]
  have e7 : g7 = f.g7 := by rw [hf]
  have ex : x = f.x := by rw [hf]
  clear hf
  subst ex e5 e6 e7
  obtain ⟨n, hn⟩ : ∃ n, n = f.x.parts.length := ⟨_, rfl⟩
  have y61 : V3.cell? ⟨f.g6, 1, none⟩ = some (.slice f.XP n f.kP) := by rw [hn]; exact HNS.out.k6.cell 1
  have hn4 : n ≤ 4 := by omega
  have hn2 : 2 ≤ n := by omega
  have HN := Lib.hid hn
  clear hn
  go_upto_block 0 with fail
  clear y61
  go_cut [] (fun wx => ∃ AP cP, NS w f (gmoreF n c.parts) c.flows c.items c.seqs AP cP AF cF AI cI AS cS wx)
  case first =>
    go_wp2_with fail
    go_loopg [] (n - c.parts.length) (fun k wr => ∃ (i : Nat) (AP : Option Addr) (cP : Nat), i + k = n - c.parts.length ∧ NS w f (gmoreI c.parts i) c.flows c.items c.seqs AP cP AF cF AI cI AS cS wr)
    case atStart => exact ⟨0, AP, cP, by omega, by
      have e0 : gmoreI c.parts 0 = c.parts := by simp [gmoreI]
      rw [e0]
      exact HNS.out⟩
    case round =>
      clear HNS HV3 HG7
      obtain ⟨i, AP, cP, hik, hN⟩ := hrel
      obtain ⟨V, rfl⟩ : ∃ V, V = wr := ⟨_, rfl⟩
      have HNS := Lib.hid hN
      obtain ⟨Pi, hPi⟩ : ∃ P, P = gmoreI c.parts i := ⟨_, rfl⟩
      have hPs := gmoreI_succ c.parts i
      rw [← hPi] at HNS hPs
      obtain ⟨L, hL⟩ : ∃ L, L = Pi.length := ⟨_, rfl⟩
      have hLi1 : L ≤ c.parts.length + i := by rw [hL, hPi, gmoreI_len]; exact Nat.le_refl _
      have hLi2 : c.parts.length + i ≤ L := by rw [hL, hPi, gmoreI_len]; exact Nat.le_refl _
      rw [← hL] at hPs
      have y71 : V.cell? ⟨f.g7, 1, none⟩ = some (.slice AP L cP) := by rw [hL]; exact HNS.out.k7.cell 1
      have HY7 := Lib.hid y71
      have hg7 := HNS.out.k7.lt
      have HPS := Lib.hid hPs
      have HPI := Lib.hid hPi
      have HL := Lib.hid hL
      clear hN hPi hPs hL
      by_cases hlt : L < n
      · have hltI : (L : Int) < (n : Int) := by omega
        have hL4 : (L : Int) < 4 := by omega
        have hL0 : (0 : Int) ≤ (L : Int) := by omega
        have HPN := Lib.hid (gpn_at L (by omega))
        obtain ⟨xs, hr, hxl, h1⟩ := rd_reads HNS.out.cc.parts
        rw [← HL.out] at hr
        have HXR := Lib.hid hr
        have HXL := Lib.hid hxl
        have HX1' := Lib.hid h1
        have d0 := (Below.refl V.heap.size V).drew
        clear hr hxl h1
        go_upto_region 6 with fail
        refine wp_region_HT 14 (fun U => Below V.heap.size V U) (by kernel_rfl) (by decide) (d0) (fun hHeld => ?_)
        refine ht_take 1 (v := ?vg_1) rfl (by kernel_rfl) (fun _ _ _ h => h) (Or.inl ⟨by rfl, ?hg_1⟩) hHeld ?rg_1
        case hg_1 => ((intro U hSw; have y3 : U.cell? ⟨f.g7, 1, none⟩ = some (.slice AP L cP) := (hSw.cell (p := ⟨f.g7, 1, none⟩) hg7).trans HY7.out; go_simp); (try (with_reducible rfl)))
        try simp only [Act.put, List.setIfInBounds_toArray, List.set_cons_zero, List.set_cons_succ]
        refine ht_take 2 (v := ?vg_2) rfl (by kernel_rfl) (fun _ _ _ h => h) (Or.inl ⟨by rfl, ?hg_2⟩) hHeld ?rg_2
        case hg_2 => ((intro U hSw; have y3 : U.cell? ⟨f.g7, 1, none⟩ = some (.slice AP L cP) := (hSw.cell (p := ⟨f.g7, 1, none⟩) hg7).trans HY7.out; go_simp); (try (with_reducible rfl)))
        try simp only [Act.put, List.setIfInBounds_toArray, List.set_cons_zero, List.set_cons_succ]
        refine ht_take 5 (v := ?vg_3) rfl (by kernel_rfl) (fun _ _ _ h => h) (Or.inl ⟨by rfl, ?hg_3⟩) hHeld ?rg_3
        case hg_3 => ((intro U hSw; have y3 : U.cell? ⟨f.g7, 1, none⟩ = some (.slice AP L cP) := (hSw.cell (p := ⟨f.g7, 1, none⟩) hg7).trans HY7.out; go_simp); (try (with_reducible rfl)))
        try simp only [Act.put, List.setIfInBounds_toArray, List.set_cons_zero, List.set_cons_succ]
        refine ht_take 6 (v := ?vg_4) rfl (by kernel_rfl) (fun _ _ _ h => h) (Or.inl ⟨by rfl, ?hg_4⟩) hHeld ?rg_4
        case hg_4 => ((intro U hSw; have y3 : U.cell? ⟨f.g7, 1, none⟩ = some (.slice AP L cP) := (hSw.cell (p := ⟨f.g7, 1, none⟩) hg7).trans HY7.out; go_simp); (try (with_reducible rfl)))
        try simp only [Act.put, List.setIfInBounds_toArray, List.set_cons_zero, List.set_cons_succ]
        refine ht_take 7 (v := ?vg_5) rfl (by kernel_rfl) (fun _ _ _ h => h) (Or.inl ⟨by rfl, ?hg_5⟩) hHeld ?rg_5
        case hg_5 => ((intro U hSw; have y3 : U.cell? ⟨f.g7, 1, none⟩ = some (.slice AP L cP) := (hSw.cell (p := ⟨f.g7, 1, none⟩) hg7).trans HY7.out; go_simp); (try (with_reducible rfl)))
        try simp only [Act.put, List.setIfInBounds_toArray, List.set_cons_zero, List.set_cons_succ]
        refine wpHT_all [0, 4] (by kernel_rfl) ?_
        refine ht_cons (i := 0) rfl (fun K hK => ?_) (ht_cons (i := 4) rfl (fun K hK => ?_) (allHT.nil))
        · go_simp
          obtain ⟨gE, hgE⟩ : ∃ g, g = V.heap.size := ⟨_, rfl⟩
          obtain ⟨T1, hT⟩ : ∃ T, T = (V.drew).alloc (.cells #[] 38) := ⟨_, rfl⟩
          have d1 : Below V.heap.size V T1 := by rw [hT]; exact d0.alloc d0.size (.cells #[] 38)
          have hE1 : T1.ownsRow V.heap.size 38 2 (.slice (some ⟨gE, 0, none⟩) 0 0) 0 [] := by rw [hT, hgE]; exact World.ownsRow_lit (base := V.heap.size) _ #[] 0 d0.size (by decide) rfl
          have nE0 : V.heap.size ≤ gE := by rw [hgE]; exact d0.size
          show K _ ((V.drew).alloc (.cells #[] 38))
          rw [← hT, ← hgE]
          clear hT hgE
          refine hK.out _ _ (d1) (fun hHeld => ?_)
          clear hK K
          try simp only [Act.put, List.setIfInBounds_toArray, List.set_cons_zero, List.set_cons_succ]
          refine wpHT_all [3, 4] (by kernel_rfl) ?_
          refine ht_cons (i := 3) rfl (fun K hK => ?_) (ht_cons (i := 4) rfl (fun K hK => ?_) (allHT.nil))
          · refine step_append_any _ (by rfl) (.tmp 31) (.tmp 33) _ (by rfl) V.heap.size 38 pi0 _ 2 32 Try.underlying23 hpi0 hpz0 hpz1 hpz2 rfl (by omega) (.slice (some ⟨gE, 0, none⟩) 0 0) 0 [] (by rfl) hE1 _ AP L cP xs (by rfl) (HXR.out.below d1) HX1'.out (by unfold maxLen; omega) (by omega) d1.size ?_
            intro v3 T2 hA2 hgrow _
            simp only [Nat.zero_add, List.nil_append] at hA2
            obtain ⟨A3, c3, rfl, _, _⟩ := own_slice hA2
            have d2 : Below V.heap.size V T2 := d1.grown hgrow d1.size (fun j hj => by simp [Value.ownBlock] at hj; omega)
            clear hgrow
            refine hK.out _ _ (d2) (fun hHeld => ?_)
            clear hK K
            try simp only [Act.put, List.setIfInBounds_toArray, List.set_cons_zero, List.set_cons_succ]
            refine ht_one 4 rfl (by kernel_rfl) (fun K hK => ?_)
            go_simp
            obtain ⟨gM, hgM⟩ : ∃ g, g = T2.heap.size := ⟨_, rfl⟩
            obtain ⟨T3, hT⟩ : ∃ T, T = (T2).alloc (.cells #[.string ⟨#[112, 97]⟩, .string ⟨#[112, 98]⟩, .string ⟨#[112, 99]⟩, .string ⟨#[112, 100]⟩] 9) := ⟨_, rfl⟩
            have d3 : Below V.heap.size V T3 := by rw [hT]; exact d2.alloc d2.size (.cells #[.string ⟨#[112, 97]⟩, .string ⟨#[112, 98]⟩, .string ⟨#[112, 99]⟩, .string ⟨#[112, 100]⟩] 9)
            have kM3 : Blk T3 gM 9 #[.string ⟨#[112, 97]⟩, .string ⟨#[112, 98]⟩, .string ⟨#[112, 99]⟩, .string ⟨#[112, 100]⟩] := by rw [hT, hgM]; exact Blk.new _ _ _
            have hA3 : T3.ownsRow V.heap.size 38 2 (.slice A3 L c3) L xs := by rw [hT]; exact hA2.alloc _
            have nM0 : V.heap.size ≤ gM := by rw [hgM]; exact d2.size
            show K _ ((T2).alloc (.cells #[.string ⟨#[112, 97]⟩, .string ⟨#[112, 98]⟩, .string ⟨#[112, 99]⟩, .string ⟨#[112, 100]⟩] 9))
            rw [← hT, ← hgM]
            clear hT hgM
            refine hK.out _ _ (d3) (fun hHeld => ?_)
            clear hK K
            try simp only [Act.put, List.setIfInBounds_toArray, List.set_cons_zero, List.set_cons_succ]
            refine ht_take 8 (v := ?vg_6) rfl (by kernel_rfl) (fun _ _ _ h => h) (Or.inl ⟨by rfl, ?hg_6⟩) hHeld ?rg_6
            case hg_6 => ((intro U hSw; have y3 : U.cell? ⟨f.g7, 1, none⟩ = some (.slice AP L cP) := (hSw.cell (p := ⟨f.g7, 1, none⟩) hg7).trans HY7.out; go_simp); (try (with_reducible rfl)))
            try simp only [Act.put, List.setIfInBounds_toArray, List.set_cons_zero, List.set_cons_succ]
            refine ht_one 9 rfl (by kernel_rfl) (fun K hK => ?_)
            have y9 : T3.cell? ⟨gM, L, none⟩ = some (.string (gpn L)) := (kM3.cell L).trans HPN.out
            go_simp
            refine hK.out _ _ (d3) (fun hHeld => ?_)
            clear hK K
            try simp only [Act.put, List.setIfInBounds_toArray, List.set_cons_zero, List.set_cons_succ]
            refine ht_take 10 (v := ?vg_7) rfl (by kernel_rfl) (fun _ _ _ h => h) (Or.inl ⟨by rfl, ?hg_7⟩) hHeld ?rg_7
            case hg_7 => ((intro U hSw; have y3 : U.cell? ⟨f.g7, 1, none⟩ = some (.slice AP L cP) := (hSw.cell (p := ⟨f.g7, 1, none⟩) hg7).trans HY7.out; go_simp); (try (with_reducible rfl)))
            try simp only [Act.put, List.setIfInBounds_toArray, List.set_cons_zero, List.set_cons_succ]
            refine ht_one 11 rfl (by kernel_rfl) (fun K hK => ?_)
            go_simp
            obtain ⟨gG, hgG⟩ : ∃ g, g = T3.heap.size := ⟨_, rfl⟩
            obtain ⟨T4, hT⟩ : ∃ T, T = (T3).alloc (.cells #[.string (gpn L), .string ⟨#[]⟩] 38) := ⟨_, rfl⟩
            have d4 : Below V.heap.size V T4 := by rw [hT]; exact d3.alloc d3.size (.cells #[.string (gpn L), .string ⟨#[]⟩] 38)
            have kG4 : Blk T4 gG 38 #[.string (gpn L), .string ⟨#[]⟩] := by rw [hT, hgG]; exact Blk.new _ _ _
            have hA4 : T4.ownsRow V.heap.size 38 2 (.slice A3 L c3) L xs := by rw [hT]; exact hA3.alloc _
            have nG0 : V.heap.size ≤ gG := by rw [hgG]; exact d3.size
            show K _ ((T3).alloc (.cells #[.string (gpn L), .string ⟨#[]⟩] 38))
            rw [← hT, ← hgG]
            clear hT hgG
            refine hK.out _ _ (d4) (fun hHeld => ?_)
            clear hK K
            try simp only [Act.put, List.setIfInBounds_toArray, List.set_cons_zero, List.set_cons_succ]
            refine ht_one 12 rfl (by kernel_rfl) (fun K hK => ?_)
            refine step_append_lies _ (by rfl) (.tmp 34) (.tmp 42) _ (by rfl) V.heap.size 38 pi0 _ 2 32 Try.underlying23 hpi0 hpz0 hpz1 hpz2 rfl (by omega) (.slice A3 L c3) L xs (by rfl) hA4 ⟨gG, 0, none⟩ 1 1 [.string (gpn L), .string ⟨#[]⟩] (by rfl) (by rfl) (World.news_of_block (cs := #[.string (gpn L), .string ⟨#[]⟩]) (t := 38) (fr := (0, 0)) kG4) (by simp [Value.oneCell']) (by omega) (by unfold maxLen; omega) (by omega) d4.size _ rfl ?_
            intro gX capX T5 hownX hgrowX _ _
            have d5 : Below V.heap.size V T5 := d4.grown hgrowX d4.size (fun j hj => (hA4.lt j hj).1)
            clear hgrowX
            refine hK.out _ _ (d5) (fun hHeld => ?_)
            clear hK K
            try simp only [Act.put, List.setIfInBounds_toArray, List.set_cons_zero, List.set_cons_succ]
            refine ht_take 13 (v := ?vg_8) rfl (by kernel_rfl) (fun _ _ _ h => h) (Or.inl ⟨by rfl, ?hg_8⟩) hHeld ?rg_8
            case hg_8 => ((intro U hSw; have y3 : U.cell? ⟨f.g7, 1, none⟩ = some (.slice AP L cP) := (hSw.cell (p := ⟨f.g7, 1, none⟩) hg7).trans HY7.out; go_simp); (try (with_reducible rfl)))
            try simp only [Act.put, List.setIfInBounds_toArray, List.set_cons_zero, List.set_cons_succ]
            refine ht_done (by kernel_rfl) rfl ?_
            have hnew : NS w f (gmoreI c.parts (i + 1)) c.flows c.items c.seqs (some ⟨gX, 0, none⟩) capX AF cF AI cI AS cS (T5.setCell ⟨f.g7, 1, none⟩ (.slice (some ⟨gX, 0, none⟩) (L + 1) capX)) := by
              have hg := set_grown (g := f.g7) (i := 1) d5 (.slice (some ⟨gX, 0, none⟩) (L + 1) capX)
              have hcl := HNS.out.cc.grownT 28 (.inl rfl) hg HNS.out.k7
              have hlen : (Pi ++ [(⟨gpn L, ⟨#[]⟩⟩ : PartD)]).length = L + 1 := by rw [List.length_append, ← HL.out]; rfl
              have hown2 := ownsRow_setCell_other (a := ⟨f.g7, 1, none⟩) hownX (by have := (hownX.lt gX rfl).1; simp [Value.ownBlock]; omega) (.slice (some ⟨gX, 0, none⟩) (L + 1) capX)
              rw [HPS.out]
              refine HNS.out.step hg ?_ ⟨?_, hcl.flows, hcl.items, hcl.seqs⟩
              · rw [hlen]
                have := (HNS.out.k7.below d5 hg7).set_ 1 (.slice (some ⟨gX, 0, none⟩) (L + 1) capX)
                exact this
              · rw [HL.out] at hown2
                exact rd_snoc2 (f := partC) (x := ⟨gpn L, ⟨#[]⟩⟩) (by rw [← HL.out] at hown2 ⊢; exact hown2) (RdL.flat (flatL_flat (fun x => by unfold partC; simp [flatL]) _) HXL.out) (rdl_cons.2 ⟨_, _, rfl, rd_str.2 rfl, rdl_cons.2 ⟨_, _, rfl, rd_str.2 rfl, rdl_nil.2 rfl⟩⟩)
            have HNEW := Lib.hid hnew
            have z1 : T5.cell? ⟨f.g7, 1, none⟩ = some (.slice AP L cP) := (d5.cell (p := ⟨f.g7, 1, none⟩) hg7).trans HY7.out
            have zf : T5.frozen? ⟨f.g7, 1, none⟩ = false := (HNS.out.k7.below d5 hg7).frozen 1
            have hlk := Nat.lt_of_lt_of_le hg7 d5.size
            clear hnew hownX
            go_wp2_with fail
            go_roundg (gk - 1)
            case measure => omega
            case rel => exact ⟨i + 1, _, _, by omega, HNEW.out⟩
          · go_simp
            obtain ⟨gM, hgM⟩ : ∃ g, g = T1.heap.size := ⟨_, rfl⟩
            obtain ⟨T2, hT⟩ : ∃ T, T = (T1).alloc (.cells #[.string ⟨#[112, 97]⟩, .string ⟨#[112, 98]⟩, .string ⟨#[112, 99]⟩, .string ⟨#[112, 100]⟩] 9) := ⟨_, rfl⟩
            have d2 : Below V.heap.size V T2 := by rw [hT]; exact d1.alloc d1.size (.cells #[.string ⟨#[112, 97]⟩, .string ⟨#[112, 98]⟩, .string ⟨#[112, 99]⟩, .string ⟨#[112, 100]⟩] 9)
            have kM2 : Blk T2 gM 9 #[.string ⟨#[112, 97]⟩, .string ⟨#[112, 98]⟩, .string ⟨#[112, 99]⟩, .string ⟨#[112, 100]⟩] := by rw [hT, hgM]; exact Blk.new _ _ _
            have hE2 : T2.ownsRow V.heap.size 38 2 (.slice (some ⟨gE, 0, none⟩) 0 0) 0 [] := by rw [hT]; exact hE1.alloc _
            have nM0 : V.heap.size ≤ gM := by rw [hgM]; exact d1.size
            have nEM : gE < gM := by rw [hgM]; exact (hE1.lt gE rfl).2
            show K _ ((T1).alloc (.cells #[.string ⟨#[112, 97]⟩, .string ⟨#[112, 98]⟩, .string ⟨#[112, 99]⟩, .string ⟨#[112, 100]⟩] 9))
            rw [← hT, ← hgM]
            clear hT hgM
            refine hK.out _ _ (d2) (fun hHeld => ?_)
            clear hK K
            try simp only [Act.put, List.setIfInBounds_toArray, List.set_cons_zero, List.set_cons_succ]
            refine ht_take 8 (v := ?vg_9) rfl (by kernel_rfl) (fun _ _ _ h => h) (Or.inl ⟨by rfl, ?hg_9⟩) hHeld ?rg_9
            case hg_9 => ((intro U hSw; have y3 : U.cell? ⟨f.g7, 1, none⟩ = some (.slice AP L cP) := (hSw.cell (p := ⟨f.g7, 1, none⟩) hg7).trans HY7.out; go_simp); (try (with_reducible rfl)))
            try simp only [Act.put, List.setIfInBounds_toArray, List.set_cons_zero, List.set_cons_succ]
            refine wpHT_all [3, 9] (by kernel_rfl) ?_
            refine ht_cons (i := 3) rfl (fun K hK => ?_) (ht_cons (i := 9) rfl (fun K hK => ?_) (allHT.nil))
            · refine step_append_any _ (by rfl) (.tmp 31) (.tmp 33) _ (by rfl) V.heap.size 38 pi0 _ 2 32 Try.underlying23 hpi0 hpz0 hpz1 hpz2 rfl (by omega) (.slice (some ⟨gE, 0, none⟩) 0 0) 0 [] (by rfl) hE2 _ AP L cP xs (by rfl) (HXR.out.below d2) HX1'.out (by unfold maxLen; omega) (by omega) d2.size ?_
              intro v3 T3 hA3 hgrow _
              simp only [Nat.zero_add, List.nil_append] at hA3
              obtain ⟨A3, c3, rfl, _, _⟩ := own_slice hA3
              have d3 : Below V.heap.size V T3 := d2.grown hgrow d2.size (fun j hj => by simp [Value.ownBlock] at hj; omega)
              have kM3 : Blk T3 gM 9 #[.string ⟨#[112, 97]⟩, .string ⟨#[112, 98]⟩, .string ⟨#[112, 99]⟩, .string ⟨#[112, 100]⟩] := kM2.grown hgrow (by simp [Value.ownBlock]; omega)
              clear hgrow
              refine hK.out _ _ (d3) (fun hHeld => ?_)
              clear hK K
              try simp only [Act.put, List.setIfInBounds_toArray, List.set_cons_zero, List.set_cons_succ]
              refine ht_one 9 rfl (by kernel_rfl) (fun K hK => ?_)
              have y9 : T3.cell? ⟨gM, L, none⟩ = some (.string (gpn L)) := (kM3.cell L).trans HPN.out
              go_simp
              refine hK.out _ _ (d3) (fun hHeld => ?_)
              clear hK K
              try simp only [Act.put, List.setIfInBounds_toArray, List.set_cons_zero, List.set_cons_succ]
              refine ht_take 10 (v := ?vg_10) rfl (by kernel_rfl) (fun _ _ _ h => h) (Or.inl ⟨by rfl, ?hg_10⟩) hHeld ?rg_10
              case hg_10 => ((intro U hSw; have y3 : U.cell? ⟨f.g7, 1, none⟩ = some (.slice AP L cP) := (hSw.cell (p := ⟨f.g7, 1, none⟩) hg7).trans HY7.out; go_simp); (try (with_reducible rfl)))
              try simp only [Act.put, List.setIfInBounds_toArray, List.set_cons_zero, List.set_cons_succ]
              refine ht_one 11 rfl (by kernel_rfl) (fun K hK => ?_)
              go_simp
              obtain ⟨gG, hgG⟩ : ∃ g, g = T3.heap.size := ⟨_, rfl⟩
              obtain ⟨T4, hT⟩ : ∃ T, T = (T3).alloc (.cells #[.string (gpn L), .string ⟨#[]⟩] 38) := ⟨_, rfl⟩
              have d4 : Below V.heap.size V T4 := by rw [hT]; exact d3.alloc d3.size (.cells #[.string (gpn L), .string ⟨#[]⟩] 38)
              have kG4 : Blk T4 gG 38 #[.string (gpn L), .string ⟨#[]⟩] := by rw [hT, hgG]; exact Blk.new _ _ _
              have hA4 : T4.ownsRow V.heap.size 38 2 (.slice A3 L c3) L xs := by rw [hT]; exact hA3.alloc _
              have nG0 : V.heap.size ≤ gG := by rw [hgG]; exact d3.size
              show K _ ((T3).alloc (.cells #[.string (gpn L), .string ⟨#[]⟩] 38))
              rw [← hT, ← hgG]
              clear hT hgG
              refine hK.out _ _ (d4) (fun hHeld => ?_)
              clear hK K
              try simp only [Act.put, List.setIfInBounds_toArray, List.set_cons_zero, List.set_cons_succ]
              refine ht_one 12 rfl (by kernel_rfl) (fun K hK => ?_)
              refine step_append_lies _ (by rfl) (.tmp 34) (.tmp 42) _ (by rfl) V.heap.size 38 pi0 _ 2 32 Try.underlying23 hpi0 hpz0 hpz1 hpz2 rfl (by omega) (.slice A3 L c3) L xs (by rfl) hA4 ⟨gG, 0, none⟩ 1 1 [.string (gpn L), .string ⟨#[]⟩] (by rfl) (by rfl) (World.news_of_block (cs := #[.string (gpn L), .string ⟨#[]⟩]) (t := 38) (fr := (0, 0)) kG4) (by simp [Value.oneCell']) (by omega) (by unfold maxLen; omega) (by omega) d4.size _ rfl ?_
              intro gX capX T5 hownX hgrowX _ _
              have d5 : Below V.heap.size V T5 := d4.grown hgrowX d4.size (fun j hj => (hA4.lt j hj).1)
              clear hgrowX
              refine hK.out _ _ (d5) (fun hHeld => ?_)
              clear hK K
              try simp only [Act.put, List.setIfInBounds_toArray, List.set_cons_zero, List.set_cons_succ]
              refine ht_take 13 (v := ?vg_11) rfl (by kernel_rfl) (fun _ _ _ h => h) (Or.inl ⟨by rfl, ?hg_11⟩) hHeld ?rg_11
              case hg_11 => ((intro U hSw; have y3 : U.cell? ⟨f.g7, 1, none⟩ = some (.slice AP L cP) := (hSw.cell (p := ⟨f.g7, 1, none⟩) hg7).trans HY7.out; go_simp); (try (with_reducible rfl)))
              try simp only [Act.put, List.setIfInBounds_toArray, List.set_cons_zero, List.set_cons_succ]
              refine ht_done (by kernel_rfl) rfl ?_
              have hnew : NS w f (gmoreI c.parts (i + 1)) c.flows c.items c.seqs (some ⟨gX, 0, none⟩) capX AF cF AI cI AS cS (T5.setCell ⟨f.g7, 1, none⟩ (.slice (some ⟨gX, 0, none⟩) (L + 1) capX)) := by
                have hg := set_grown (g := f.g7) (i := 1) d5 (.slice (some ⟨gX, 0, none⟩) (L + 1) capX)
                have hcl := HNS.out.cc.grownT 28 (.inl rfl) hg HNS.out.k7
                have hlen : (Pi ++ [(⟨gpn L, ⟨#[]⟩⟩ : PartD)]).length = L + 1 := by rw [List.length_append, ← HL.out]; rfl
                have hown2 := ownsRow_setCell_other (a := ⟨f.g7, 1, none⟩) hownX (by have := (hownX.lt gX rfl).1; simp [Value.ownBlock]; omega) (.slice (some ⟨gX, 0, none⟩) (L + 1) capX)
                rw [HPS.out]
                refine HNS.out.step hg ?_ ⟨?_, hcl.flows, hcl.items, hcl.seqs⟩
                · rw [hlen]
                  have := (HNS.out.k7.below d5 hg7).set_ 1 (.slice (some ⟨gX, 0, none⟩) (L + 1) capX)
                  exact this
                · rw [HL.out] at hown2
                  exact rd_snoc2 (f := partC) (x := ⟨gpn L, ⟨#[]⟩⟩) (by rw [← HL.out] at hown2 ⊢; exact hown2) (RdL.flat (flatL_flat (fun x => by unfold partC; simp [flatL]) _) HXL.out) (rdl_cons.2 ⟨_, _, rfl, rd_str.2 rfl, rdl_cons.2 ⟨_, _, rfl, rd_str.2 rfl, rdl_nil.2 rfl⟩⟩)
              have HNEW := Lib.hid hnew
              have z1 : T5.cell? ⟨f.g7, 1, none⟩ = some (.slice AP L cP) := (d5.cell (p := ⟨f.g7, 1, none⟩) hg7).trans HY7.out
              have zf : T5.frozen? ⟨f.g7, 1, none⟩ = false := (HNS.out.k7.below d5 hg7).frozen 1
              have hlk := Nat.lt_of_lt_of_le hg7 d5.size
              clear hnew hownX
              go_wp2_with fail
              go_roundg (gk - 1)
              case measure => omega
              case rel => exact ⟨i + 1, _, _, by omega, HNEW.out⟩
            · have y9 : T2.cell? ⟨gM, L, none⟩ = some (.string (gpn L)) := (kM2.cell L).trans HPN.out
              go_simp
              refine hK.out _ _ (d2) (fun hHeld => ?_)
              clear hK K
              try simp only [Act.put, List.setIfInBounds_toArray, List.set_cons_zero, List.set_cons_succ]
              refine ht_take 10 (v := ?vg_12) rfl (by kernel_rfl) (fun _ _ _ h => h) (Or.inl ⟨by rfl, ?hg_12⟩) hHeld ?rg_12
              case hg_12 => ((intro U hSw; have y3 : U.cell? ⟨f.g7, 1, none⟩ = some (.slice AP L cP) := (hSw.cell (p := ⟨f.g7, 1, none⟩) hg7).trans HY7.out; go_simp); (try (with_reducible rfl)))
              try simp only [Act.put, List.setIfInBounds_toArray, List.set_cons_zero, List.set_cons_succ]
              refine wpHT_all [3, 11] (by kernel_rfl) ?_
              refine ht_cons (i := 3) rfl (fun K hK => ?_) (ht_cons (i := 11) rfl (fun K hK => ?_) (allHT.nil))
              · refine step_append_any _ (by rfl) (.tmp 31) (.tmp 33) _ (by rfl) V.heap.size 38 pi0 _ 2 32 Try.underlying23 hpi0 hpz0 hpz1 hpz2 rfl (by omega) (.slice (some ⟨gE, 0, none⟩) 0 0) 0 [] (by rfl) hE2 _ AP L cP xs (by rfl) (HXR.out.below d2) HX1'.out (by unfold maxLen; omega) (by omega) d2.size ?_
                intro v3 T3 hA3 hgrow _
                simp only [Nat.zero_add, List.nil_append] at hA3
                obtain ⟨A3, c3, rfl, _, _⟩ := own_slice hA3
                have d3 : Below V.heap.size V T3 := d2.grown hgrow d2.size (fun j hj => by simp [Value.ownBlock] at hj; omega)
                clear hgrow
                refine hK.out _ _ (d3) (fun hHeld => ?_)
                clear hK K
                try simp only [Act.put, List.setIfInBounds_toArray, List.set_cons_zero, List.set_cons_succ]
                refine ht_one 11 rfl (by kernel_rfl) (fun K hK => ?_)
                go_simp
                obtain ⟨gG, hgG⟩ : ∃ g, g = T3.heap.size := ⟨_, rfl⟩
                obtain ⟨T4, hT⟩ : ∃ T, T = (T3).alloc (.cells #[.string (gpn L), .string ⟨#[]⟩] 38) := ⟨_, rfl⟩
                have d4 : Below V.heap.size V T4 := by rw [hT]; exact d3.alloc d3.size (.cells #[.string (gpn L), .string ⟨#[]⟩] 38)
                have kG4 : Blk T4 gG 38 #[.string (gpn L), .string ⟨#[]⟩] := by rw [hT, hgG]; exact Blk.new _ _ _
                have hA4 : T4.ownsRow V.heap.size 38 2 (.slice A3 L c3) L xs := by rw [hT]; exact hA3.alloc _
                have nG0 : V.heap.size ≤ gG := by rw [hgG]; exact d3.size
                show K _ ((T3).alloc (.cells #[.string (gpn L), .string ⟨#[]⟩] 38))
                rw [← hT, ← hgG]
                clear hT hgG
                refine hK.out _ _ (d4) (fun hHeld => ?_)
                clear hK K
                try simp only [Act.put, List.setIfInBounds_toArray, List.set_cons_zero, List.set_cons_succ]
                refine ht_one 12 rfl (by kernel_rfl) (fun K hK => ?_)
                refine step_append_lies _ (by rfl) (.tmp 34) (.tmp 42) _ (by rfl) V.heap.size 38 pi0 _ 2 32 Try.underlying23 hpi0 hpz0 hpz1 hpz2 rfl (by omega) (.slice A3 L c3) L xs (by rfl) hA4 ⟨gG, 0, none⟩ 1 1 [.string (gpn L), .string ⟨#[]⟩] (by rfl) (by rfl) (World.news_of_block (cs := #[.string (gpn L), .string ⟨#[]⟩]) (t := 38) (fr := (0, 0)) kG4) (by simp [Value.oneCell']) (by omega) (by unfold maxLen; omega) (by omega) d4.size _ rfl ?_
                intro gX capX T5 hownX hgrowX _ _
                have d5 : Below V.heap.size V T5 := d4.grown hgrowX d4.size (fun j hj => (hA4.lt j hj).1)
                clear hgrowX
                refine hK.out _ _ (d5) (fun hHeld => ?_)
                clear hK K
                try simp only [Act.put, List.setIfInBounds_toArray, List.set_cons_zero, List.set_cons_succ]
                refine ht_take 13 (v := ?vg_13) rfl (by kernel_rfl) (fun _ _ _ h => h) (Or.inl ⟨by rfl, ?hg_13⟩) hHeld ?rg_13
                case hg_13 => ((intro U hSw; have y3 : U.cell? ⟨f.g7, 1, none⟩ = some (.slice AP L cP) := (hSw.cell (p := ⟨f.g7, 1, none⟩) hg7).trans HY7.out; go_simp); (try (with_reducible rfl)))
                try simp only [Act.put, List.setIfInBounds_toArray, List.set_cons_zero, List.set_cons_succ]
                refine ht_done (by kernel_rfl) rfl ?_
                have hnew : NS w f (gmoreI c.parts (i + 1)) c.flows c.items c.seqs (some ⟨gX, 0, none⟩) capX AF cF AI cI AS cS (T5.setCell ⟨f.g7, 1, none⟩ (.slice (some ⟨gX, 0, none⟩) (L + 1) capX)) := by
                  have hg := set_grown (g := f.g7) (i := 1) d5 (.slice (some ⟨gX, 0, none⟩) (L + 1) capX)
                  have hcl := HNS.out.cc.grownT 28 (.inl rfl) hg HNS.out.k7
                  have hlen : (Pi ++ [(⟨gpn L, ⟨#[]⟩⟩ : PartD)]).length = L + 1 := by rw [List.length_append, ← HL.out]; rfl
                  have hown2 := ownsRow_setCell_other (a := ⟨f.g7, 1, none⟩) hownX (by have := (hownX.lt gX rfl).1; simp [Value.ownBlock]; omega) (.slice (some ⟨gX, 0, none⟩) (L + 1) capX)
                  rw [HPS.out]
                  refine HNS.out.step hg ?_ ⟨?_, hcl.flows, hcl.items, hcl.seqs⟩
                  · rw [hlen]
                    have := (HNS.out.k7.below d5 hg7).set_ 1 (.slice (some ⟨gX, 0, none⟩) (L + 1) capX)
                    exact this
                  · rw [HL.out] at hown2
                    exact rd_snoc2 (f := partC) (x := ⟨gpn L, ⟨#[]⟩⟩) (by rw [← HL.out] at hown2 ⊢; exact hown2) (RdL.flat (flatL_flat (fun x => by unfold partC; simp [flatL]) _) HXL.out) (rdl_cons.2 ⟨_, _, rfl, rd_str.2 rfl, rdl_cons.2 ⟨_, _, rfl, rd_str.2 rfl, rdl_nil.2 rfl⟩⟩)
                have HNEW := Lib.hid hnew
                have z1 : T5.cell? ⟨f.g7, 1, none⟩ = some (.slice AP L cP) := (d5.cell (p := ⟨f.g7, 1, none⟩) hg7).trans HY7.out
                have zf : T5.frozen? ⟨f.g7, 1, none⟩ = false := (HNS.out.k7.below d5 hg7).frozen 1
                have hlk := Nat.lt_of_lt_of_le hg7 d5.size
                clear hnew hownX
                go_wp2_with fail
                go_roundg (gk - 1)
                case measure => omega
                case rel => exact ⟨i + 1, _, _, by omega, HNEW.out⟩
              · go_simp
                obtain ⟨gG, hgG⟩ : ∃ g, g = T2.heap.size := ⟨_, rfl⟩
                obtain ⟨T3, hT⟩ : ∃ T, T = (T2).alloc (.cells #[.string (gpn L), .string ⟨#[]⟩] 38) := ⟨_, rfl⟩
                have d3 : Below V.heap.size V T3 := by rw [hT]; exact d2.alloc d2.size (.cells #[.string (gpn L), .string ⟨#[]⟩] 38)
                have kG3 : Blk T3 gG 38 #[.string (gpn L), .string ⟨#[]⟩] := by rw [hT, hgG]; exact Blk.new _ _ _
                have hE3 : T3.ownsRow V.heap.size 38 2 (.slice (some ⟨gE, 0, none⟩) 0 0) 0 [] := by rw [hT]; exact hE2.alloc _
                have nG0 : V.heap.size ≤ gG := by rw [hgG]; exact d2.size
                have nEG : gE < gG := by rw [hgG]; exact (hE2.lt gE rfl).2
                show K _ ((T2).alloc (.cells #[.string (gpn L), .string ⟨#[]⟩] 38))
                rw [← hT, ← hgG]
                clear hT hgG
                refine hK.out _ _ (d3) (fun hHeld => ?_)
                clear hK K
                try simp only [Act.put, List.setIfInBounds_toArray, List.set_cons_zero, List.set_cons_succ]
                refine ht_one 3 rfl (by kernel_rfl) (fun K hK => ?_)
                refine step_append_any _ (by rfl) (.tmp 31) (.tmp 33) _ (by rfl) V.heap.size 38 pi0 _ 2 32 Try.underlying23 hpi0 hpz0 hpz1 hpz2 rfl (by omega) (.slice (some ⟨gE, 0, none⟩) 0 0) 0 [] (by rfl) hE3 _ AP L cP xs (by rfl) (HXR.out.below d3) HX1'.out (by unfold maxLen; omega) (by omega) d3.size ?_
                intro v3 T4 hA4 hgrow _
                simp only [Nat.zero_add, List.nil_append] at hA4
                obtain ⟨A3, c3, rfl, _, _⟩ := own_slice hA4
                have d4 : Below V.heap.size V T4 := d3.grown hgrow d3.size (fun j hj => by simp [Value.ownBlock] at hj; omega)
                have kG4 : Blk T4 gG 38 #[.string (gpn L), .string ⟨#[]⟩] := kG3.grown hgrow (by simp [Value.ownBlock]; omega)
                clear hgrow
                refine hK.out _ _ (d4) (fun hHeld => ?_)
                clear hK K
                try simp only [Act.put, List.setIfInBounds_toArray, List.set_cons_zero, List.set_cons_succ]
                refine ht_one 12 rfl (by kernel_rfl) (fun K hK => ?_)
                refine step_append_lies _ (by rfl) (.tmp 34) (.tmp 42) _ (by rfl) V.heap.size 38 pi0 _ 2 32 Try.underlying23 hpi0 hpz0 hpz1 hpz2 rfl (by omega) (.slice A3 L c3) L xs (by rfl) hA4 ⟨gG, 0, none⟩ 1 1 [.string (gpn L), .string ⟨#[]⟩] (by rfl) (by rfl) (World.news_of_block (cs := #[.string (gpn L), .string ⟨#[]⟩]) (t := 38) (fr := (0, 0)) kG4) (by simp [Value.oneCell']) (by omega) (by unfold maxLen; omega) (by omega) d4.size _ rfl ?_
                intro gX capX T5 hownX hgrowX _ _
                have d5 : Below V.heap.size V T5 := d4.grown hgrowX d4.size (fun j hj => (hA4.lt j hj).1)
                clear hgrowX
                refine hK.out _ _ (d5) (fun hHeld => ?_)
                clear hK K
                try simp only [Act.put, List.setIfInBounds_toArray, List.set_cons_zero, List.set_cons_succ]
                refine ht_take 13 (v := ?vg_14) rfl (by kernel_rfl) (fun _ _ _ h => h) (Or.inl ⟨by rfl, ?hg_14⟩) hHeld ?rg_14
                case hg_14 => ((intro U hSw; have y3 : U.cell? ⟨f.g7, 1, none⟩ = some (.slice AP L cP) := (hSw.cell (p := ⟨f.g7, 1, none⟩) hg7).trans HY7.out; go_simp); (try (with_reducible rfl)))
                try simp only [Act.put, List.setIfInBounds_toArray, List.set_cons_zero, List.set_cons_succ]
                refine ht_done (by kernel_rfl) rfl ?_
                have hnew : NS w f (gmoreI c.parts (i + 1)) c.flows c.items c.seqs (some ⟨gX, 0, none⟩) capX AF cF AI cI AS cS (T5.setCell ⟨f.g7, 1, none⟩ (.slice (some ⟨gX, 0, none⟩) (L + 1) capX)) := by
                  have hg := set_grown (g := f.g7) (i := 1) d5 (.slice (some ⟨gX, 0, none⟩) (L + 1) capX)
                  have hcl := HNS.out.cc.grownT 28 (.inl rfl) hg HNS.out.k7
                  have hlen : (Pi ++ [(⟨gpn L, ⟨#[]⟩⟩ : PartD)]).length = L + 1 := by rw [List.length_append, ← HL.out]; rfl
                  have hown2 := ownsRow_setCell_other (a := ⟨f.g7, 1, none⟩) hownX (by have := (hownX.lt gX rfl).1; simp [Value.ownBlock]; omega) (.slice (some ⟨gX, 0, none⟩) (L + 1) capX)
                  rw [HPS.out]
                  refine HNS.out.step hg ?_ ⟨?_, hcl.flows, hcl.items, hcl.seqs⟩
                  · rw [hlen]
                    have := (HNS.out.k7.below d5 hg7).set_ 1 (.slice (some ⟨gX, 0, none⟩) (L + 1) capX)
                    exact this
                  · rw [HL.out] at hown2
                    exact rd_snoc2 (f := partC) (x := ⟨gpn L, ⟨#[]⟩⟩) (by rw [← HL.out] at hown2 ⊢; exact hown2) (RdL.flat (flatL_flat (fun x => by unfold partC; simp [flatL]) _) HXL.out) (rdl_cons.2 ⟨_, _, rfl, rd_str.2 rfl, rdl_cons.2 ⟨_, _, rfl, rd_str.2 rfl, rdl_nil.2 rfl⟩⟩)
                have HNEW := Lib.hid hnew
                have z1 : T5.cell? ⟨f.g7, 1, none⟩ = some (.slice AP L cP) := (d5.cell (p := ⟨f.g7, 1, none⟩) hg7).trans HY7.out
                have zf : T5.frozen? ⟨f.g7, 1, none⟩ = false := (HNS.out.k7.below d5 hg7).frozen 1
                have hlk := Nat.lt_of_lt_of_le hg7 d5.size
                clear hnew hownX
                go_wp2_with fail
                go_roundg (gk - 1)
                case measure => omega
                case rel => exact ⟨i + 1, _, _, by omega, HNEW.out⟩
        · go_simp
          obtain ⟨gM, hgM⟩ : ∃ g, g = V.heap.size := ⟨_, rfl⟩
          obtain ⟨T1, hT⟩ : ∃ T, T = (V.drew).alloc (.cells #[.string ⟨#[112, 97]⟩, .string ⟨#[112, 98]⟩, .string ⟨#[112, 99]⟩, .string ⟨#[112, 100]⟩] 9) := ⟨_, rfl⟩
          have d1 : Below V.heap.size V T1 := by rw [hT]; exact d0.alloc d0.size (.cells #[.string ⟨#[112, 97]⟩, .string ⟨#[112, 98]⟩, .string ⟨#[112, 99]⟩, .string ⟨#[112, 100]⟩] 9)
          have kM1 : Blk T1 gM 9 #[.string ⟨#[112, 97]⟩, .string ⟨#[112, 98]⟩, .string ⟨#[112, 99]⟩, .string ⟨#[112, 100]⟩] := by rw [hT, hgM]; exact Blk.new _ _ _
          have nM0 : V.heap.size ≤ gM := by rw [hgM]; exact d0.size
          show K _ ((V.drew).alloc (.cells #[.string ⟨#[112, 97]⟩, .string ⟨#[112, 98]⟩, .string ⟨#[112, 99]⟩, .string ⟨#[112, 100]⟩] 9))
          rw [← hT, ← hgM]
          clear hT hgM
          refine hK.out _ _ (d1) (fun hHeld => ?_)
          clear hK K
          try simp only [Act.put, List.setIfInBounds_toArray, List.set_cons_zero, List.set_cons_succ]
          refine ht_take 8 (v := ?vg_15) rfl (by kernel_rfl) (fun _ _ _ h => h) (Or.inl ⟨by rfl, ?hg_15⟩) hHeld ?rg_15
          case hg_15 => ((intro U hSw; have y3 : U.cell? ⟨f.g7, 1, none⟩ = some (.slice AP L cP) := (hSw.cell (p := ⟨f.g7, 1, none⟩) hg7).trans HY7.out; go_simp); (try (with_reducible rfl)))
          try simp only [Act.put, List.setIfInBounds_toArray, List.set_cons_zero, List.set_cons_succ]
          refine wpHT_all [0, 9] (by kernel_rfl) ?_
          refine ht_cons (i := 0) rfl (fun K hK => ?_) (ht_cons (i := 9) rfl (fun K hK => ?_) (allHT.nil))
          · go_simp
            obtain ⟨gE, hgE⟩ : ∃ g, g = T1.heap.size := ⟨_, rfl⟩
            obtain ⟨T2, hT⟩ : ∃ T, T = (T1).alloc (.cells #[] 38) := ⟨_, rfl⟩
            have d2 : Below V.heap.size V T2 := by rw [hT]; exact d1.alloc d1.size (.cells #[] 38)
            have hE2 : T2.ownsRow V.heap.size 38 2 (.slice (some ⟨gE, 0, none⟩) 0 0) 0 [] := by rw [hT, hgE]; exact World.ownsRow_lit (base := V.heap.size) _ #[] 0 d1.size (by decide) rfl
            have kM2 : Blk T2 gM 9 #[.string ⟨#[112, 97]⟩, .string ⟨#[112, 98]⟩, .string ⟨#[112, 99]⟩, .string ⟨#[112, 100]⟩] := by rw [hT]; exact kM1.alloc _
            have nE0 : V.heap.size ≤ gE := by rw [hgE]; exact d1.size
            have nME : gM < gE := by rw [hgE]; exact kM1.lt
            show K _ ((T1).alloc (.cells #[] 38))
            rw [← hT, ← hgE]
            clear hT hgE
            refine hK.out _ _ (d2) (fun hHeld => ?_)
            clear hK K
            try simp only [Act.put, List.setIfInBounds_toArray, List.set_cons_zero, List.set_cons_succ]
            refine wpHT_all [3, 9] (by kernel_rfl) ?_
            refine ht_cons (i := 3) rfl (fun K hK => ?_) (ht_cons (i := 9) rfl (fun K hK => ?_) (allHT.nil))
            · refine step_append_any _ (by rfl) (.tmp 31) (.tmp 33) _ (by rfl) V.heap.size 38 pi0 _ 2 32 Try.underlying23 hpi0 hpz0 hpz1 hpz2 rfl (by omega) (.slice (some ⟨gE, 0, none⟩) 0 0) 0 [] (by rfl) hE2 _ AP L cP xs (by rfl) (HXR.out.below d2) HX1'.out (by unfold maxLen; omega) (by omega) d2.size ?_
              intro v3 T3 hA3 hgrow _
              simp only [Nat.zero_add, List.nil_append] at hA3
              obtain ⟨A3, c3, rfl, _, _⟩ := own_slice hA3
              have d3 : Below V.heap.size V T3 := d2.grown hgrow d2.size (fun j hj => by simp [Value.ownBlock] at hj; omega)
              have kM3 : Blk T3 gM 9 #[.string ⟨#[112, 97]⟩, .string ⟨#[112, 98]⟩, .string ⟨#[112, 99]⟩, .string ⟨#[112, 100]⟩] := kM2.grown hgrow (by simp [Value.ownBlock]; omega)
              clear hgrow
              refine hK.out _ _ (d3) (fun hHeld => ?_)
              clear hK K
              try simp only [Act.put, List.setIfInBounds_toArray, List.set_cons_zero, List.set_cons_succ]
              refine ht_one 9 rfl (by kernel_rfl) (fun K hK => ?_)
              have y9 : T3.cell? ⟨gM, L, none⟩ = some (.string (gpn L)) := (kM3.cell L).trans HPN.out
              go_simp
              refine hK.out _ _ (d3) (fun hHeld => ?_)
              clear hK K
              try simp only [Act.put, List.setIfInBounds_toArray, List.set_cons_zero, List.set_cons_succ]
              refine ht_take 10 (v := ?vg_16) rfl (by kernel_rfl) (fun _ _ _ h => h) (Or.inl ⟨by rfl, ?hg_16⟩) hHeld ?rg_16
              case hg_16 => ((intro U hSw; have y3 : U.cell? ⟨f.g7, 1, none⟩ = some (.slice AP L cP) := (hSw.cell (p := ⟨f.g7, 1, none⟩) hg7).trans HY7.out; go_simp); (try (with_reducible rfl)))
              try simp only [Act.put, List.setIfInBounds_toArray, List.set_cons_zero, List.set_cons_succ]
              refine ht_one 11 rfl (by kernel_rfl) (fun K hK => ?_)
              go_simp
              obtain ⟨gG, hgG⟩ : ∃ g, g = T3.heap.size := ⟨_, rfl⟩
              obtain ⟨T4, hT⟩ : ∃ T, T = (T3).alloc (.cells #[.string (gpn L), .string ⟨#[]⟩] 38) := ⟨_, rfl⟩
              have d4 : Below V.heap.size V T4 := by rw [hT]; exact d3.alloc d3.size (.cells #[.string (gpn L), .string ⟨#[]⟩] 38)
              have kG4 : Blk T4 gG 38 #[.string (gpn L), .string ⟨#[]⟩] := by rw [hT, hgG]; exact Blk.new _ _ _
              have hA4 : T4.ownsRow V.heap.size 38 2 (.slice A3 L c3) L xs := by rw [hT]; exact hA3.alloc _
              have nG0 : V.heap.size ≤ gG := by rw [hgG]; exact d3.size
              show K _ ((T3).alloc (.cells #[.string (gpn L), .string ⟨#[]⟩] 38))
              rw [← hT, ← hgG]
              clear hT hgG
              refine hK.out _ _ (d4) (fun hHeld => ?_)
              clear hK K
              try simp only [Act.put, List.setIfInBounds_toArray, List.set_cons_zero, List.set_cons_succ]
              refine ht_one 12 rfl (by kernel_rfl) (fun K hK => ?_)
              refine step_append_lies _ (by rfl) (.tmp 34) (.tmp 42) _ (by rfl) V.heap.size 38 pi0 _ 2 32 Try.underlying23 hpi0 hpz0 hpz1 hpz2 rfl (by omega) (.slice A3 L c3) L xs (by rfl) hA4 ⟨gG, 0, none⟩ 1 1 [.string (gpn L), .string ⟨#[]⟩] (by rfl) (by rfl) (World.news_of_block (cs := #[.string (gpn L), .string ⟨#[]⟩]) (t := 38) (fr := (0, 0)) kG4) (by simp [Value.oneCell']) (by omega) (by unfold maxLen; omega) (by omega) d4.size _ rfl ?_
              intro gX capX T5 hownX hgrowX _ _
              have d5 : Below V.heap.size V T5 := d4.grown hgrowX d4.size (fun j hj => (hA4.lt j hj).1)
              clear hgrowX
              refine hK.out _ _ (d5) (fun hHeld => ?_)
              clear hK K
              try simp only [Act.put, List.setIfInBounds_toArray, List.set_cons_zero, List.set_cons_succ]
              refine ht_take 13 (v := ?vg_17) rfl (by kernel_rfl) (fun _ _ _ h => h) (Or.inl ⟨by rfl, ?hg_17⟩) hHeld ?rg_17
              case hg_17 => ((intro U hSw; have y3 : U.cell? ⟨f.g7, 1, none⟩ = some (.slice AP L cP) := (hSw.cell (p := ⟨f.g7, 1, none⟩) hg7).trans HY7.out; go_simp); (try (with_reducible rfl)))
              try simp only [Act.put, List.setIfInBounds_toArray, List.set_cons_zero, List.set_cons_succ]
              refine ht_done (by kernel_rfl) rfl ?_
              have hnew : NS w f (gmoreI c.parts (i + 1)) c.flows c.items c.seqs (some ⟨gX, 0, none⟩) capX AF cF AI cI AS cS (T5.setCell ⟨f.g7, 1, none⟩ (.slice (some ⟨gX, 0, none⟩) (L + 1) capX)) := by
                have hg := set_grown (g := f.g7) (i := 1) d5 (.slice (some ⟨gX, 0, none⟩) (L + 1) capX)
                have hcl := HNS.out.cc.grownT 28 (.inl rfl) hg HNS.out.k7
                have hlen : (Pi ++ [(⟨gpn L, ⟨#[]⟩⟩ : PartD)]).length = L + 1 := by rw [List.length_append, ← HL.out]; rfl
                have hown2 := ownsRow_setCell_other (a := ⟨f.g7, 1, none⟩) hownX (by have := (hownX.lt gX rfl).1; simp [Value.ownBlock]; omega) (.slice (some ⟨gX, 0, none⟩) (L + 1) capX)
                rw [HPS.out]
                refine HNS.out.step hg ?_ ⟨?_, hcl.flows, hcl.items, hcl.seqs⟩
                · rw [hlen]
                  have := (HNS.out.k7.below d5 hg7).set_ 1 (.slice (some ⟨gX, 0, none⟩) (L + 1) capX)
                  exact this
                · rw [HL.out] at hown2
                  exact rd_snoc2 (f := partC) (x := ⟨gpn L, ⟨#[]⟩⟩) (by rw [← HL.out] at hown2 ⊢; exact hown2) (RdL.flat (flatL_flat (fun x => by unfold partC; simp [flatL]) _) HXL.out) (rdl_cons.2 ⟨_, _, rfl, rd_str.2 rfl, rdl_cons.2 ⟨_, _, rfl, rd_str.2 rfl, rdl_nil.2 rfl⟩⟩)
              have HNEW := Lib.hid hnew
              have z1 : T5.cell? ⟨f.g7, 1, none⟩ = some (.slice AP L cP) := (d5.cell (p := ⟨f.g7, 1, none⟩) hg7).trans HY7.out
              have zf : T5.frozen? ⟨f.g7, 1, none⟩ = false := (HNS.out.k7.below d5 hg7).frozen 1
              have hlk := Nat.lt_of_lt_of_le hg7 d5.size
              clear hnew hownX
              go_wp2_with fail
              go_roundg (gk - 1)
              case measure => omega
              case rel => exact ⟨i + 1, _, _, by omega, HNEW.out⟩
            · have y9 : T2.cell? ⟨gM, L, none⟩ = some (.string (gpn L)) := (kM2.cell L).trans HPN.out
              go_simp
              refine hK.out _ _ (d2) (fun hHeld => ?_)
              clear hK K
              try simp only [Act.put, List.setIfInBounds_toArray, List.set_cons_zero, List.set_cons_succ]
              refine ht_take 10 (v := ?vg_18) rfl (by kernel_rfl) (fun _ _ _ h => h) (Or.inl ⟨by rfl, ?hg_18⟩) hHeld ?rg_18
              case hg_18 => ((intro U hSw; have y3 : U.cell? ⟨f.g7, 1, none⟩ = some (.slice AP L cP) := (hSw.cell (p := ⟨f.g7, 1, none⟩) hg7).trans HY7.out; go_simp); (try (with_reducible rfl)))
              try simp only [Act.put, List.setIfInBounds_toArray, List.set_cons_zero, List.set_cons_succ]
              refine wpHT_all [3, 11] (by kernel_rfl) ?_
              refine ht_cons (i := 3) rfl (fun K hK => ?_) (ht_cons (i := 11) rfl (fun K hK => ?_) (allHT.nil))
              · refine step_append_any _ (by rfl) (.tmp 31) (.tmp 33) _ (by rfl) V.heap.size 38 pi0 _ 2 32 Try.underlying23 hpi0 hpz0 hpz1 hpz2 rfl (by omega) (.slice (some ⟨gE, 0, none⟩) 0 0) 0 [] (by rfl) hE2 _ AP L cP xs (by rfl) (HXR.out.below d2) HX1'.out (by unfold maxLen; omega) (by omega) d2.size ?_
                intro v3 T3 hA3 hgrow _
                simp only [Nat.zero_add, List.nil_append] at hA3
                obtain ⟨A3, c3, rfl, _, _⟩ := own_slice hA3
                have d3 : Below V.heap.size V T3 := d2.grown hgrow d2.size (fun j hj => by simp [Value.ownBlock] at hj; omega)
                clear hgrow
                refine hK.out _ _ (d3) (fun hHeld => ?_)
                clear hK K
                try simp only [Act.put, List.setIfInBounds_toArray, List.set_cons_zero, List.set_cons_succ]
                refine ht_one 11 rfl (by kernel_rfl) (fun K hK => ?_)
                go_simp
                obtain ⟨gG, hgG⟩ : ∃ g, g = T3.heap.size := ⟨_, rfl⟩
                obtain ⟨T4, hT⟩ : ∃ T, T = (T3).alloc (.cells #[.string (gpn L), .string ⟨#[]⟩] 38) := ⟨_, rfl⟩
                have d4 : Below V.heap.size V T4 := by rw [hT]; exact d3.alloc d3.size (.cells #[.string (gpn L), .string ⟨#[]⟩] 38)
                have kG4 : Blk T4 gG 38 #[.string (gpn L), .string ⟨#[]⟩] := by rw [hT, hgG]; exact Blk.new _ _ _
                have hA4 : T4.ownsRow V.heap.size 38 2 (.slice A3 L c3) L xs := by rw [hT]; exact hA3.alloc _
                have nG0 : V.heap.size ≤ gG := by rw [hgG]; exact d3.size
                show K _ ((T3).alloc (.cells #[.string (gpn L), .string ⟨#[]⟩] 38))
                rw [← hT, ← hgG]
                clear hT hgG
                refine hK.out _ _ (d4) (fun hHeld => ?_)
                clear hK K
                try simp only [Act.put, List.setIfInBounds_toArray, List.set_cons_zero, List.set_cons_succ]
                refine ht_one 12 rfl (by kernel_rfl) (fun K hK => ?_)
                refine step_append_lies _ (by rfl) (.tmp 34) (.tmp 42) _ (by rfl) V.heap.size 38 pi0 _ 2 32 Try.underlying23 hpi0 hpz0 hpz1 hpz2 rfl (by omega) (.slice A3 L c3) L xs (by rfl) hA4 ⟨gG, 0, none⟩ 1 1 [.string (gpn L), .string ⟨#[]⟩] (by rfl) (by rfl) (World.news_of_block (cs := #[.string (gpn L), .string ⟨#[]⟩]) (t := 38) (fr := (0, 0)) kG4) (by simp [Value.oneCell']) (by omega) (by unfold maxLen; omega) (by omega) d4.size _ rfl ?_
                intro gX capX T5 hownX hgrowX _ _
                have d5 : Below V.heap.size V T5 := d4.grown hgrowX d4.size (fun j hj => (hA4.lt j hj).1)
                clear hgrowX
                refine hK.out _ _ (d5) (fun hHeld => ?_)
                clear hK K
                try simp only [Act.put, List.setIfInBounds_toArray, List.set_cons_zero, List.set_cons_succ]
                refine ht_take 13 (v := ?vg_19) rfl (by kernel_rfl) (fun _ _ _ h => h) (Or.inl ⟨by rfl, ?hg_19⟩) hHeld ?rg_19
                case hg_19 => ((intro U hSw; have y3 : U.cell? ⟨f.g7, 1, none⟩ = some (.slice AP L cP) := (hSw.cell (p := ⟨f.g7, 1, none⟩) hg7).trans HY7.out; go_simp); (try (with_reducible rfl)))
                try simp only [Act.put, List.setIfInBounds_toArray, List.set_cons_zero, List.set_cons_succ]
                refine ht_done (by kernel_rfl) rfl ?_
                have hnew : NS w f (gmoreI c.parts (i + 1)) c.flows c.items c.seqs (some ⟨gX, 0, none⟩) capX AF cF AI cI AS cS (T5.setCell ⟨f.g7, 1, none⟩ (.slice (some ⟨gX, 0, none⟩) (L + 1) capX)) := by
                  have hg := set_grown (g := f.g7) (i := 1) d5 (.slice (some ⟨gX, 0, none⟩) (L + 1) capX)
                  have hcl := HNS.out.cc.grownT 28 (.inl rfl) hg HNS.out.k7
                  have hlen : (Pi ++ [(⟨gpn L, ⟨#[]⟩⟩ : PartD)]).length = L + 1 := by rw [List.length_append, ← HL.out]; rfl
                  have hown2 := ownsRow_setCell_other (a := ⟨f.g7, 1, none⟩) hownX (by have := (hownX.lt gX rfl).1; simp [Value.ownBlock]; omega) (.slice (some ⟨gX, 0, none⟩) (L + 1) capX)
                  rw [HPS.out]
                  refine HNS.out.step hg ?_ ⟨?_, hcl.flows, hcl.items, hcl.seqs⟩
                  · rw [hlen]
                    have := (HNS.out.k7.below d5 hg7).set_ 1 (.slice (some ⟨gX, 0, none⟩) (L + 1) capX)
                    exact this
                  · rw [HL.out] at hown2
                    exact rd_snoc2 (f := partC) (x := ⟨gpn L, ⟨#[]⟩⟩) (by rw [← HL.out] at hown2 ⊢; exact hown2) (RdL.flat (flatL_flat (fun x => by unfold partC; simp [flatL]) _) HXL.out) (rdl_cons.2 ⟨_, _, rfl, rd_str.2 rfl, rdl_cons.2 ⟨_, _, rfl, rd_str.2 rfl, rdl_nil.2 rfl⟩⟩)
                have HNEW := Lib.hid hnew
                have z1 : T5.cell? ⟨f.g7, 1, none⟩ = some (.slice AP L cP) := (d5.cell (p := ⟨f.g7, 1, none⟩) hg7).trans HY7.out
                have zf : T5.frozen? ⟨f.g7, 1, none⟩ = false := (HNS.out.k7.below d5 hg7).frozen 1
                have hlk := Nat.lt_of_lt_of_le hg7 d5.size
                clear hnew hownX
                go_wp2_with fail
                go_roundg (gk - 1)
                case measure => omega
                case rel => exact ⟨i + 1, _, _, by omega, HNEW.out⟩
              · go_simp
                obtain ⟨gG, hgG⟩ : ∃ g, g = T2.heap.size := ⟨_, rfl⟩
                obtain ⟨T3, hT⟩ : ∃ T, T = (T2).alloc (.cells #[.string (gpn L), .string ⟨#[]⟩] 38) := ⟨_, rfl⟩
                have d3 : Below V.heap.size V T3 := by rw [hT]; exact d2.alloc d2.size (.cells #[.string (gpn L), .string ⟨#[]⟩] 38)
                have kG3 : Blk T3 gG 38 #[.string (gpn L), .string ⟨#[]⟩] := by rw [hT, hgG]; exact Blk.new _ _ _
                have hE3 : T3.ownsRow V.heap.size 38 2 (.slice (some ⟨gE, 0, none⟩) 0 0) 0 [] := by rw [hT]; exact hE2.alloc _
                have nG0 : V.heap.size ≤ gG := by rw [hgG]; exact d2.size
                have nEG : gE < gG := by rw [hgG]; exact (hE2.lt gE rfl).2
                show K _ ((T2).alloc (.cells #[.string (gpn L), .string ⟨#[]⟩] 38))
                rw [← hT, ← hgG]
                clear hT hgG
                refine hK.out _ _ (d3) (fun hHeld => ?_)
                clear hK K
                try simp only [Act.put, List.setIfInBounds_toArray, List.set_cons_zero, List.set_cons_succ]
                refine ht_one 3 rfl (by kernel_rfl) (fun K hK => ?_)
                refine step_append_any _ (by rfl) (.tmp 31) (.tmp 33) _ (by rfl) V.heap.size 38 pi0 _ 2 32 Try.underlying23 hpi0 hpz0 hpz1 hpz2 rfl (by omega) (.slice (some ⟨gE, 0, none⟩) 0 0) 0 [] (by rfl) hE3 _ AP L cP xs (by rfl) (HXR.out.below d3) HX1'.out (by unfold maxLen; omega) (by omega) d3.size ?_
                intro v3 T4 hA4 hgrow _
                simp only [Nat.zero_add, List.nil_append] at hA4
                obtain ⟨A3, c3, rfl, _, _⟩ := own_slice hA4
                have d4 : Below V.heap.size V T4 := d3.grown hgrow d3.size (fun j hj => by simp [Value.ownBlock] at hj; omega)
                have kG4 : Blk T4 gG 38 #[.string (gpn L), .string ⟨#[]⟩] := kG3.grown hgrow (by simp [Value.ownBlock]; omega)
                clear hgrow
                refine hK.out _ _ (d4) (fun hHeld => ?_)
                clear hK K
                try simp only [Act.put, List.setIfInBounds_toArray, List.set_cons_zero, List.set_cons_succ]
                refine ht_one 12 rfl (by kernel_rfl) (fun K hK => ?_)
                refine step_append_lies _ (by rfl) (.tmp 34) (.tmp 42) _ (by rfl) V.heap.size 38 pi0 _ 2 32 Try.underlying23 hpi0 hpz0 hpz1 hpz2 rfl (by omega) (.slice A3 L c3) L xs (by rfl) hA4 ⟨gG, 0, none⟩ 1 1 [.string (gpn L), .string ⟨#[]⟩] (by rfl) (by rfl) (World.news_of_block (cs := #[.string (gpn L), .string ⟨#[]⟩]) (t := 38) (fr := (0, 0)) kG4) (by simp [Value.oneCell']) (by omega) (by unfold maxLen; omega) (by omega) d4.size _ rfl ?_
                intro gX capX T5 hownX hgrowX _ _
                have d5 : Below V.heap.size V T5 := d4.grown hgrowX d4.size (fun j hj => (hA4.lt j hj).1)
                clear hgrowX
                refine hK.out _ _ (d5) (fun hHeld => ?_)
                clear hK K
                try simp only [Act.put, List.setIfInBounds_toArray, List.set_cons_zero, List.set_cons_succ]
                refine ht_take 13 (v := ?vg_20) rfl (by kernel_rfl) (fun _ _ _ h => h) (Or.inl ⟨by rfl, ?hg_20⟩) hHeld ?rg_20
                case hg_20 => ((intro U hSw; have y3 : U.cell? ⟨f.g7, 1, none⟩ = some (.slice AP L cP) := (hSw.cell (p := ⟨f.g7, 1, none⟩) hg7).trans HY7.out; go_simp); (try (with_reducible rfl)))
                try simp only [Act.put, List.setIfInBounds_toArray, List.set_cons_zero, List.set_cons_succ]
                refine ht_done (by kernel_rfl) rfl ?_
                have hnew : NS w f (gmoreI c.parts (i + 1)) c.flows c.items c.seqs (some ⟨gX, 0, none⟩) capX AF cF AI cI AS cS (T5.setCell ⟨f.g7, 1, none⟩ (.slice (some ⟨gX, 0, none⟩) (L + 1) capX)) := by
                  have hg := set_grown (g := f.g7) (i := 1) d5 (.slice (some ⟨gX, 0, none⟩) (L + 1) capX)
                  have hcl := HNS.out.cc.grownT 28 (.inl rfl) hg HNS.out.k7
                  have hlen : (Pi ++ [(⟨gpn L, ⟨#[]⟩⟩ : PartD)]).length = L + 1 := by rw [List.length_append, ← HL.out]; rfl
                  have hown2 := ownsRow_setCell_other (a := ⟨f.g7, 1, none⟩) hownX (by have := (hownX.lt gX rfl).1; simp [Value.ownBlock]; omega) (.slice (some ⟨gX, 0, none⟩) (L + 1) capX)
                  rw [HPS.out]
                  refine HNS.out.step hg ?_ ⟨?_, hcl.flows, hcl.items, hcl.seqs⟩
                  · rw [hlen]
                    have := (HNS.out.k7.below d5 hg7).set_ 1 (.slice (some ⟨gX, 0, none⟩) (L + 1) capX)
                    exact this
                  · rw [HL.out] at hown2
                    exact rd_snoc2 (f := partC) (x := ⟨gpn L, ⟨#[]⟩⟩) (by rw [← HL.out] at hown2 ⊢; exact hown2) (RdL.flat (flatL_flat (fun x => by unfold partC; simp [flatL]) _) HXL.out) (rdl_cons.2 ⟨_, _, rfl, rd_str.2 rfl, rdl_cons.2 ⟨_, _, rfl, rd_str.2 rfl, rdl_nil.2 rfl⟩⟩)
                have HNEW := Lib.hid hnew
                have z1 : T5.cell? ⟨f.g7, 1, none⟩ = some (.slice AP L cP) := (d5.cell (p := ⟨f.g7, 1, none⟩) hg7).trans HY7.out
                have zf : T5.frozen? ⟨f.g7, 1, none⟩ = false := (HNS.out.k7.below d5 hg7).frozen 1
                have hlk := Nat.lt_of_lt_of_le hg7 d5.size
                clear hnew hownX
                go_wp2_with fail
                go_roundg (gk - 1)
                case measure => omega
                case rel => exact ⟨i + 1, _, _, by omega, HNEW.out⟩
          · have y9 : T1.cell? ⟨gM, L, none⟩ = some (.string (gpn L)) := (kM1.cell L).trans HPN.out
            go_simp
            refine hK.out _ _ (d1) (fun hHeld => ?_)
            clear hK K
            try simp only [Act.put, List.setIfInBounds_toArray, List.set_cons_zero, List.set_cons_succ]
            refine ht_take 10 (v := ?vg_21) rfl (by kernel_rfl) (fun _ _ _ h => h) (Or.inl ⟨by rfl, ?hg_21⟩) hHeld ?rg_21
            case hg_21 => ((intro U hSw; have y3 : U.cell? ⟨f.g7, 1, none⟩ = some (.slice AP L cP) := (hSw.cell (p := ⟨f.g7, 1, none⟩) hg7).trans HY7.out; go_simp); (try (with_reducible rfl)))
            try simp only [Act.put, List.setIfInBounds_toArray, List.set_cons_zero, List.set_cons_succ]
            refine wpHT_all [0, 11] (by kernel_rfl) ?_
            refine ht_cons (i := 0) rfl (fun K hK => ?_) (ht_cons (i := 11) rfl (fun K hK => ?_) (allHT.nil))
            · go_simp
              obtain ⟨gE, hgE⟩ : ∃ g, g = T1.heap.size := ⟨_, rfl⟩
              obtain ⟨T2, hT⟩ : ∃ T, T = (T1).alloc (.cells #[] 38) := ⟨_, rfl⟩
              have d2 : Below V.heap.size V T2 := by rw [hT]; exact d1.alloc d1.size (.cells #[] 38)
              have hE2 : T2.ownsRow V.heap.size 38 2 (.slice (some ⟨gE, 0, none⟩) 0 0) 0 [] := by rw [hT, hgE]; exact World.ownsRow_lit (base := V.heap.size) _ #[] 0 d1.size (by decide) rfl
              have nE0 : V.heap.size ≤ gE := by rw [hgE]; exact d1.size
              show K _ ((T1).alloc (.cells #[] 38))
              rw [← hT, ← hgE]
              clear hT hgE
              refine hK.out _ _ (d2) (fun hHeld => ?_)
              clear hK K
              try simp only [Act.put, List.setIfInBounds_toArray, List.set_cons_zero, List.set_cons_succ]
              refine wpHT_all [3, 11] (by kernel_rfl) ?_
              refine ht_cons (i := 3) rfl (fun K hK => ?_) (ht_cons (i := 11) rfl (fun K hK => ?_) (allHT.nil))
              · refine step_append_any _ (by rfl) (.tmp 31) (.tmp 33) _ (by rfl) V.heap.size 38 pi0 _ 2 32 Try.underlying23 hpi0 hpz0 hpz1 hpz2 rfl (by omega) (.slice (some ⟨gE, 0, none⟩) 0 0) 0 [] (by rfl) hE2 _ AP L cP xs (by rfl) (HXR.out.below d2) HX1'.out (by unfold maxLen; omega) (by omega) d2.size ?_
                intro v3 T3 hA3 hgrow _
                simp only [Nat.zero_add, List.nil_append] at hA3
                obtain ⟨A3, c3, rfl, _, _⟩ := own_slice hA3
                have d3 : Below V.heap.size V T3 := d2.grown hgrow d2.size (fun j hj => by simp [Value.ownBlock] at hj; omega)
                clear hgrow
                refine hK.out _ _ (d3) (fun hHeld => ?_)
                clear hK K
                try simp only [Act.put, List.setIfInBounds_toArray, List.set_cons_zero, List.set_cons_succ]
                refine ht_one 11 rfl (by kernel_rfl) (fun K hK => ?_)
                go_simp
                obtain ⟨gG, hgG⟩ : ∃ g, g = T3.heap.size := ⟨_, rfl⟩
                obtain ⟨T4, hT⟩ : ∃ T, T = (T3).alloc (.cells #[.string (gpn L), .string ⟨#[]⟩] 38) := ⟨_, rfl⟩
                have d4 : Below V.heap.size V T4 := by rw [hT]; exact d3.alloc d3.size (.cells #[.string (gpn L), .string ⟨#[]⟩] 38)
                have kG4 : Blk T4 gG 38 #[.string (gpn L), .string ⟨#[]⟩] := by rw [hT, hgG]; exact Blk.new _ _ _
                have hA4 : T4.ownsRow V.heap.size 38 2 (.slice A3 L c3) L xs := by rw [hT]; exact hA3.alloc _
                have nG0 : V.heap.size ≤ gG := by rw [hgG]; exact d3.size
                show K _ ((T3).alloc (.cells #[.string (gpn L), .string ⟨#[]⟩] 38))
                rw [← hT, ← hgG]
                clear hT hgG
                refine hK.out _ _ (d4) (fun hHeld => ?_)
                clear hK K
                try simp only [Act.put, List.setIfInBounds_toArray, List.set_cons_zero, List.set_cons_succ]
                refine ht_one 12 rfl (by kernel_rfl) (fun K hK => ?_)
                refine step_append_lies _ (by rfl) (.tmp 34) (.tmp 42) _ (by rfl) V.heap.size 38 pi0 _ 2 32 Try.underlying23 hpi0 hpz0 hpz1 hpz2 rfl (by omega) (.slice A3 L c3) L xs (by rfl) hA4 ⟨gG, 0, none⟩ 1 1 [.string (gpn L), .string ⟨#[]⟩] (by rfl) (by rfl) (World.news_of_block (cs := #[.string (gpn L), .string ⟨#[]⟩]) (t := 38) (fr := (0, 0)) kG4) (by simp [Value.oneCell']) (by omega) (by unfold maxLen; omega) (by omega) d4.size _ rfl ?_
                intro gX capX T5 hownX hgrowX _ _
                have d5 : Below V.heap.size V T5 := d4.grown hgrowX d4.size (fun j hj => (hA4.lt j hj).1)
                clear hgrowX
                refine hK.out _ _ (d5) (fun hHeld => ?_)
                clear hK K
                try simp only [Act.put, List.setIfInBounds_toArray, List.set_cons_zero, List.set_cons_succ]
                refine ht_take 13 (v := ?vg_22) rfl (by kernel_rfl) (fun _ _ _ h => h) (Or.inl ⟨by rfl, ?hg_22⟩) hHeld ?rg_22
                case hg_22 => ((intro U hSw; have y3 : U.cell? ⟨f.g7, 1, none⟩ = some (.slice AP L cP) := (hSw.cell (p := ⟨f.g7, 1, none⟩) hg7).trans HY7.out; go_simp); (try (with_reducible rfl)))
                try simp only [Act.put, List.setIfInBounds_toArray, List.set_cons_zero, List.set_cons_succ]
                refine ht_done (by kernel_rfl) rfl ?_
                have hnew : NS w f (gmoreI c.parts (i + 1)) c.flows c.items c.seqs (some ⟨gX, 0, none⟩) capX AF cF AI cI AS cS (T5.setCell ⟨f.g7, 1, none⟩ (.slice (some ⟨gX, 0, none⟩) (L + 1) capX)) := by
                  have hg := set_grown (g := f.g7) (i := 1) d5 (.slice (some ⟨gX, 0, none⟩) (L + 1) capX)
                  have hcl := HNS.out.cc.grownT 28 (.inl rfl) hg HNS.out.k7
                  have hlen : (Pi ++ [(⟨gpn L, ⟨#[]⟩⟩ : PartD)]).length = L + 1 := by rw [List.length_append, ← HL.out]; rfl
                  have hown2 := ownsRow_setCell_other (a := ⟨f.g7, 1, none⟩) hownX (by have := (hownX.lt gX rfl).1; simp [Value.ownBlock]; omega) (.slice (some ⟨gX, 0, none⟩) (L + 1) capX)
                  rw [HPS.out]
                  refine HNS.out.step hg ?_ ⟨?_, hcl.flows, hcl.items, hcl.seqs⟩
                  · rw [hlen]
                    have := (HNS.out.k7.below d5 hg7).set_ 1 (.slice (some ⟨gX, 0, none⟩) (L + 1) capX)
                    exact this
                  · rw [HL.out] at hown2
                    exact rd_snoc2 (f := partC) (x := ⟨gpn L, ⟨#[]⟩⟩) (by rw [← HL.out] at hown2 ⊢; exact hown2) (RdL.flat (flatL_flat (fun x => by unfold partC; simp [flatL]) _) HXL.out) (rdl_cons.2 ⟨_, _, rfl, rd_str.2 rfl, rdl_cons.2 ⟨_, _, rfl, rd_str.2 rfl, rdl_nil.2 rfl⟩⟩)
                have HNEW := Lib.hid hnew
                have z1 : T5.cell? ⟨f.g7, 1, none⟩ = some (.slice AP L cP) := (d5.cell (p := ⟨f.g7, 1, none⟩) hg7).trans HY7.out
                have zf : T5.frozen? ⟨f.g7, 1, none⟩ = false := (HNS.out.k7.below d5 hg7).frozen 1
                have hlk := Nat.lt_of_lt_of_le hg7 d5.size
                clear hnew hownX
                go_wp2_with fail
                go_roundg (gk - 1)
                case measure => omega
                case rel => exact ⟨i + 1, _, _, by omega, HNEW.out⟩
              · go_simp
                obtain ⟨gG, hgG⟩ : ∃ g, g = T2.heap.size := ⟨_, rfl⟩
                obtain ⟨T3, hT⟩ : ∃ T, T = (T2).alloc (.cells #[.string (gpn L), .string ⟨#[]⟩] 38) := ⟨_, rfl⟩
                have d3 : Below V.heap.size V T3 := by rw [hT]; exact d2.alloc d2.size (.cells #[.string (gpn L), .string ⟨#[]⟩] 38)
                have kG3 : Blk T3 gG 38 #[.string (gpn L), .string ⟨#[]⟩] := by rw [hT, hgG]; exact Blk.new _ _ _
                have hE3 : T3.ownsRow V.heap.size 38 2 (.slice (some ⟨gE, 0, none⟩) 0 0) 0 [] := by rw [hT]; exact hE2.alloc _
                have nG0 : V.heap.size ≤ gG := by rw [hgG]; exact d2.size
                have nEG : gE < gG := by rw [hgG]; exact (hE2.lt gE rfl).2
                show K _ ((T2).alloc (.cells #[.string (gpn L), .string ⟨#[]⟩] 38))
                rw [← hT, ← hgG]
                clear hT hgG
                refine hK.out _ _ (d3) (fun hHeld => ?_)
                clear hK K
                try simp only [Act.put, List.setIfInBounds_toArray, List.set_cons_zero, List.set_cons_succ]
                refine ht_one 3 rfl (by kernel_rfl) (fun K hK => ?_)
                refine step_append_any _ (by rfl) (.tmp 31) (.tmp 33) _ (by rfl) V.heap.size 38 pi0 _ 2 32 Try.underlying23 hpi0 hpz0 hpz1 hpz2 rfl (by omega) (.slice (some ⟨gE, 0, none⟩) 0 0) 0 [] (by rfl) hE3 _ AP L cP xs (by rfl) (HXR.out.below d3) HX1'.out (by unfold maxLen; omega) (by omega) d3.size ?_
                intro v3 T4 hA4 hgrow _
                simp only [Nat.zero_add, List.nil_append] at hA4
                obtain ⟨A3, c3, rfl, _, _⟩ := own_slice hA4
                have d4 : Below V.heap.size V T4 := d3.grown hgrow d3.size (fun j hj => by simp [Value.ownBlock] at hj; omega)
                have kG4 : Blk T4 gG 38 #[.string (gpn L), .string ⟨#[]⟩] := kG3.grown hgrow (by simp [Value.ownBlock]; omega)
                clear hgrow
                refine hK.out _ _ (d4) (fun hHeld => ?_)
                clear hK K
                try simp only [Act.put, List.setIfInBounds_toArray, List.set_cons_zero, List.set_cons_succ]
                refine ht_one 12 rfl (by kernel_rfl) (fun K hK => ?_)
                refine step_append_lies _ (by rfl) (.tmp 34) (.tmp 42) _ (by rfl) V.heap.size 38 pi0 _ 2 32 Try.underlying23 hpi0 hpz0 hpz1 hpz2 rfl (by omega) (.slice A3 L c3) L xs (by rfl) hA4 ⟨gG, 0, none⟩ 1 1 [.string (gpn L), .string ⟨#[]⟩] (by rfl) (by rfl) (World.news_of_block (cs := #[.string (gpn L), .string ⟨#[]⟩]) (t := 38) (fr := (0, 0)) kG4) (by simp [Value.oneCell']) (by omega) (by unfold maxLen; omega) (by omega) d4.size _ rfl ?_
                intro gX capX T5 hownX hgrowX _ _
                have d5 : Below V.heap.size V T5 := d4.grown hgrowX d4.size (fun j hj => (hA4.lt j hj).1)
                clear hgrowX
                refine hK.out _ _ (d5) (fun hHeld => ?_)
                clear hK K
                try simp only [Act.put, List.setIfInBounds_toArray, List.set_cons_zero, List.set_cons_succ]
                refine ht_take 13 (v := ?vg_23) rfl (by kernel_rfl) (fun _ _ _ h => h) (Or.inl ⟨by rfl, ?hg_23⟩) hHeld ?rg_23
                case hg_23 => ((intro U hSw; have y3 : U.cell? ⟨f.g7, 1, none⟩ = some (.slice AP L cP) := (hSw.cell (p := ⟨f.g7, 1, none⟩) hg7).trans HY7.out; go_simp); (try (with_reducible rfl)))
                try simp only [Act.put, List.setIfInBounds_toArray, List.set_cons_zero, List.set_cons_succ]
                refine ht_done (by kernel_rfl) rfl ?_
                have hnew : NS w f (gmoreI c.parts (i + 1)) c.flows c.items c.seqs (some ⟨gX, 0, none⟩) capX AF cF AI cI AS cS (T5.setCell ⟨f.g7, 1, none⟩ (.slice (some ⟨gX, 0, none⟩) (L + 1) capX)) := by
                  have hg := set_grown (g := f.g7) (i := 1) d5 (.slice (some ⟨gX, 0, none⟩) (L + 1) capX)
                  have hcl := HNS.out.cc.grownT 28 (.inl rfl) hg HNS.out.k7
                  have hlen : (Pi ++ [(⟨gpn L, ⟨#[]⟩⟩ : PartD)]).length = L + 1 := by rw [List.length_append, ← HL.out]; rfl
                  have hown2 := ownsRow_setCell_other (a := ⟨f.g7, 1, none⟩) hownX (by have := (hownX.lt gX rfl).1; simp [Value.ownBlock]; omega) (.slice (some ⟨gX, 0, none⟩) (L + 1) capX)
                  rw [HPS.out]
                  refine HNS.out.step hg ?_ ⟨?_, hcl.flows, hcl.items, hcl.seqs⟩
                  · rw [hlen]
                    have := (HNS.out.k7.below d5 hg7).set_ 1 (.slice (some ⟨gX, 0, none⟩) (L + 1) capX)
                    exact this
                  · rw [HL.out] at hown2
                    exact rd_snoc2 (f := partC) (x := ⟨gpn L, ⟨#[]⟩⟩) (by rw [← HL.out] at hown2 ⊢; exact hown2) (RdL.flat (flatL_flat (fun x => by unfold partC; simp [flatL]) _) HXL.out) (rdl_cons.2 ⟨_, _, rfl, rd_str.2 rfl, rdl_cons.2 ⟨_, _, rfl, rd_str.2 rfl, rdl_nil.2 rfl⟩⟩)
                have HNEW := Lib.hid hnew
                have z1 : T5.cell? ⟨f.g7, 1, none⟩ = some (.slice AP L cP) := (d5.cell (p := ⟨f.g7, 1, none⟩) hg7).trans HY7.out
                have zf : T5.frozen? ⟨f.g7, 1, none⟩ = false := (HNS.out.k7.below d5 hg7).frozen 1
                have hlk := Nat.lt_of_lt_of_le hg7 d5.size
                clear hnew hownX
                go_wp2_with fail
                go_roundg (gk - 1)
                case measure => omega
                case rel => exact ⟨i + 1, _, _, by omega, HNEW.out⟩
            · go_simp
              obtain ⟨gG, hgG⟩ : ∃ g, g = T1.heap.size := ⟨_, rfl⟩
              obtain ⟨T2, hT⟩ : ∃ T, T = (T1).alloc (.cells #[.string (gpn L), .string ⟨#[]⟩] 38) := ⟨_, rfl⟩
              have d2 : Below V.heap.size V T2 := by rw [hT]; exact d1.alloc d1.size (.cells #[.string (gpn L), .string ⟨#[]⟩] 38)
              have kG2 : Blk T2 gG 38 #[.string (gpn L), .string ⟨#[]⟩] := by rw [hT, hgG]; exact Blk.new _ _ _
              have nG0 : V.heap.size ≤ gG := by rw [hgG]; exact d1.size
              show K _ ((T1).alloc (.cells #[.string (gpn L), .string ⟨#[]⟩] 38))
              rw [← hT, ← hgG]
              clear hT hgG
              refine hK.out _ _ (d2) (fun hHeld => ?_)
              clear hK K
              try simp only [Act.put, List.setIfInBounds_toArray, List.set_cons_zero, List.set_cons_succ]
              refine ht_one 0 rfl (by kernel_rfl) (fun K hK => ?_)
              go_simp
              obtain ⟨gE, hgE⟩ : ∃ g, g = T2.heap.size := ⟨_, rfl⟩
              obtain ⟨T3, hT⟩ : ∃ T, T = (T2).alloc (.cells #[] 38) := ⟨_, rfl⟩
              have d3 : Below V.heap.size V T3 := by rw [hT]; exact d2.alloc d2.size (.cells #[] 38)
              have hE3 : T3.ownsRow V.heap.size 38 2 (.slice (some ⟨gE, 0, none⟩) 0 0) 0 [] := by rw [hT, hgE]; exact World.ownsRow_lit (base := V.heap.size) _ #[] 0 d2.size (by decide) rfl
              have kG3 : Blk T3 gG 38 #[.string (gpn L), .string ⟨#[]⟩] := by rw [hT]; exact kG2.alloc _
              have nE0 : V.heap.size ≤ gE := by rw [hgE]; exact d2.size
              have nGE : gG < gE := by rw [hgE]; exact kG2.lt
              show K _ ((T2).alloc (.cells #[] 38))
              rw [← hT, ← hgE]
              clear hT hgE
              refine hK.out _ _ (d3) (fun hHeld => ?_)
              clear hK K
              try simp only [Act.put, List.setIfInBounds_toArray, List.set_cons_zero, List.set_cons_succ]
              refine ht_one 3 rfl (by kernel_rfl) (fun K hK => ?_)
              refine step_append_any _ (by rfl) (.tmp 31) (.tmp 33) _ (by rfl) V.heap.size 38 pi0 _ 2 32 Try.underlying23 hpi0 hpz0 hpz1 hpz2 rfl (by omega) (.slice (some ⟨gE, 0, none⟩) 0 0) 0 [] (by rfl) hE3 _ AP L cP xs (by rfl) (HXR.out.below d3) HX1'.out (by unfold maxLen; omega) (by omega) d3.size ?_
              intro v3 T4 hA4 hgrow _
              simp only [Nat.zero_add, List.nil_append] at hA4
              obtain ⟨A3, c3, rfl, _, _⟩ := own_slice hA4
              have d4 : Below V.heap.size V T4 := d3.grown hgrow d3.size (fun j hj => by simp [Value.ownBlock] at hj; omega)
              have kG4 : Blk T4 gG 38 #[.string (gpn L), .string ⟨#[]⟩] := kG3.grown hgrow (by simp [Value.ownBlock]; omega)
              clear hgrow
              refine hK.out _ _ (d4) (fun hHeld => ?_)
              clear hK K
              try simp only [Act.put, List.setIfInBounds_toArray, List.set_cons_zero, List.set_cons_succ]
              refine ht_one 12 rfl (by kernel_rfl) (fun K hK => ?_)
              refine step_append_lies _ (by rfl) (.tmp 34) (.tmp 42) _ (by rfl) V.heap.size 38 pi0 _ 2 32 Try.underlying23 hpi0 hpz0 hpz1 hpz2 rfl (by omega) (.slice A3 L c3) L xs (by rfl) hA4 ⟨gG, 0, none⟩ 1 1 [.string (gpn L), .string ⟨#[]⟩] (by rfl) (by rfl) (World.news_of_block (cs := #[.string (gpn L), .string ⟨#[]⟩]) (t := 38) (fr := (0, 0)) kG4) (by simp [Value.oneCell']) (by omega) (by unfold maxLen; omega) (by omega) d4.size _ rfl ?_
              intro gX capX T5 hownX hgrowX _ _
              have d5 : Below V.heap.size V T5 := d4.grown hgrowX d4.size (fun j hj => (hA4.lt j hj).1)
              clear hgrowX
              refine hK.out _ _ (d5) (fun hHeld => ?_)
              clear hK K
              try simp only [Act.put, List.setIfInBounds_toArray, List.set_cons_zero, List.set_cons_succ]
              refine ht_take 13 (v := ?vg_24) rfl (by kernel_rfl) (fun _ _ _ h => h) (Or.inl ⟨by rfl, ?hg_24⟩) hHeld ?rg_24
              case hg_24 => ((intro U hSw; have y3 : U.cell? ⟨f.g7, 1, none⟩ = some (.slice AP L cP) := (hSw.cell (p := ⟨f.g7, 1, none⟩) hg7).trans HY7.out; go_simp); (try (with_reducible rfl)))
              try simp only [Act.put, List.setIfInBounds_toArray, List.set_cons_zero, List.set_cons_succ]
              refine ht_done (by kernel_rfl) rfl ?_
              have hnew : NS w f (gmoreI c.parts (i + 1)) c.flows c.items c.seqs (some ⟨gX, 0, none⟩) capX AF cF AI cI AS cS (T5.setCell ⟨f.g7, 1, none⟩ (.slice (some ⟨gX, 0, none⟩) (L + 1) capX)) := by
                have hg := set_grown (g := f.g7) (i := 1) d5 (.slice (some ⟨gX, 0, none⟩) (L + 1) capX)
                have hcl := HNS.out.cc.grownT 28 (.inl rfl) hg HNS.out.k7
                have hlen : (Pi ++ [(⟨gpn L, ⟨#[]⟩⟩ : PartD)]).length = L + 1 := by rw [List.length_append, ← HL.out]; rfl
                have hown2 := ownsRow_setCell_other (a := ⟨f.g7, 1, none⟩) hownX (by have := (hownX.lt gX rfl).1; simp [Value.ownBlock]; omega) (.slice (some ⟨gX, 0, none⟩) (L + 1) capX)
                rw [HPS.out]
                refine HNS.out.step hg ?_ ⟨?_, hcl.flows, hcl.items, hcl.seqs⟩
                · rw [hlen]
                  have := (HNS.out.k7.below d5 hg7).set_ 1 (.slice (some ⟨gX, 0, none⟩) (L + 1) capX)
                  exact this
                · rw [HL.out] at hown2
                  exact rd_snoc2 (f := partC) (x := ⟨gpn L, ⟨#[]⟩⟩) (by rw [← HL.out] at hown2 ⊢; exact hown2) (RdL.flat (flatL_flat (fun x => by unfold partC; simp [flatL]) _) HXL.out) (rdl_cons.2 ⟨_, _, rfl, rd_str.2 rfl, rdl_cons.2 ⟨_, _, rfl, rd_str.2 rfl, rdl_nil.2 rfl⟩⟩)
              have HNEW := Lib.hid hnew
              have z1 : T5.cell? ⟨f.g7, 1, none⟩ = some (.slice AP L cP) := (d5.cell (p := ⟨f.g7, 1, none⟩) hg7).trans HY7.out
              have zf : T5.frozen? ⟨f.g7, 1, none⟩ = false := (HNS.out.k7.below d5 hg7).frozen 1
              have hlk := Nat.lt_of_lt_of_le hg7 d5.size
              clear hnew hownX
              go_wp2_with fail
              go_roundg (gk - 1)
              case measure => omega
              case rel => exact ⟨i + 1, _, _, by omega, HNEW.out⟩
      · have hltI : ¬ (L : Int) < (n : Int) := by omega
        have hfin : gmoreF n c.parts = Pi := by rw [HPI.out, show i = n - c.parts.length by omega]; rfl
        have HFIN := Lib.hid hfin
        clear hfin
        go_wp2_with fail
        go_meet
        case rel => exact ⟨AP, cP, by rw [HFIN.out]; exact HNS.out⟩
  case rest =>
    obtain ⟨AP2, cP2, hN4⟩ := hcut
    obtain ⟨V4, rfl⟩ : ∃ V, V = wc := ⟨_, rfl⟩
    obtain ⟨PP, hPP⟩ : ∃ P, P = gmoreF n c.parts := ⟨_, rfl⟩
    rw [← hPP] at hN4
    have hPl : PP.length = c.parts.length + (n - c.parts.length) := by rw [hPP]; simp [gmoreF]
    obtain ⟨LP, hLP⟩ : ∃ L, L = PP.length := ⟨_, rfl⟩
    have hLP4 : LP ≤ 4 := by omega
    have hLP2 : 2 ≤ LP := by omega
    have HN4 := Lib.hid hN4
    have HPP := Lib.hid hPP
    have HLPP := Lib.hid hLP
    obtain ⟨pk, hpk⟩ : ∃ z, z = pickF q 1 := ⟨_, rfl⟩
    have hpk24 : pk ≤ 16777215 := by rw [hpk]; exact pickF_le _ _
    have HPK := Lib.hid hpk
    have hy6 : V4.cell? ⟨f.g6, 1, none⟩ = some (.slice f.XP n f.kP) := by rw [HN.out]; exact hN4.k6.cell 1
    have hy7 : V4.cell? ⟨f.g7, 1, none⟩ = some (.slice AP2 LP cP2) := by rw [hLP]; exact hN4.k7.cell 1
    have HY6 := Lib.hid hy6
    have HY7 := Lib.hid hy7
    have h64 := hN4.k6.lt
    have h74 := hN4.k7.lt
    obtain ⟨V5, hV5⟩ : ∃ V, V = V4.alloc (.cells #[.int .i64 8, .string ⟨#[99, 97, 108, 108]⟩, .string ⟨#[]⟩, .slice none 0 0, .slice none 0 0, .bool false, .string ⟨#[100]⟩, .slice none 0 0, .slice none 0 0, .slice none 0 0] 33) := ⟨_, rfl⟩
    obtain ⟨g9, hg9⟩ : ∃ g, g = V4.heap.size := ⟨_, rfl⟩
    have hI1 : Below V4.heap.size V4 V5 := by rw [hV5]; exact (Below.refl _ _).alloc (Nat.le_refl _) _
    have hI2 : Blk V5 g9 33 #[.int .i64 8, .string ⟨#[99, 97, 108, 108]⟩, .string ⟨#[]⟩, .slice none 0 0, .slice none 0 0, .bool false, .string ⟨#[100]⟩, .slice none 0 0, .slice none 0 0, .slice none 0 0] := by rw [hV5, hg9]; exact Blk.new _ _ _
    have HI1 := Lib.hid hI1
    have HI2 := Lib.hid hI2
    have HV5 := Lib.hid hV5.symm
    have HG9 := Lib.hid hg9.symm
    have hg9V : V4.heap.size ≤ g9 := by omega
    have HBQ : Hid (IntsAt V4 B q) := Lib.hid (HQ.out.below hN4.bel)
    obtain ⟨mi0, hmi0, hmz0, hmz1, hmz2⟩ := info_parts Try.infoMapG
    clear hPP hPl hLP hpk hy6 hy7 hV5 hg9 hI1 hI2 hN4
    go_upto_region 8 with fail
    rw [HV5.out, HG9.out]
    go_upto_block 2 with fail
    go_cut [] (fun wx => ∃ AM cM, Below V4.heap.size V4 wx ∧ Blk wx g9 33 #[.int .i64 8, .string ⟨#[99, 97, 108, 108]⟩, .string ⟨#[]⟩, .slice none 0 0, .slice none 0 0, .bool false, .string ⟨#[100]⟩, .slice AM n cM, .slice none 0 0, .slice none 0 0] ∧ wx.ownsRow V4.heap.size 73 2 (.slice AM n cM) n (rowMp f.x.parts PP pk n))
    case first =>
      go_wp2_with fail
      go_loopw [10] (fun iv wr => ∃ (i : Nat) (AM : Option Addr) (cM : Nat), i ≤ n ∧ iv = .int .i64 i ∧ Below V4.heap.size V4 wr ∧ Blk wr g9 33 #[.int .i64 8, .string ⟨#[99, 97, 108, 108]⟩, .string ⟨#[]⟩, .slice none 0 0, .slice none 0 0, .bool false, .string ⟨#[100]⟩, .slice AM i cM, .slice none 0 0, .slice none 0 0] ∧ wr.ownsRow V4.heap.size 73 2 (.slice AM i cM) i (rowMp f.x.parts PP pk i)) (fun iv _ => n - (intOf iv).toNat)
      case atStart => exact ⟨0, none, 0, Nat.zero_le _, rfl, HI1.out, HI2.out, World.ownsRow_nil _ _ _ _⟩
      case round =>
        clear HI1 HI2 HV5 HG9
        obtain ⟨i, AM, cM, hi, rfl, hB, hK, hO⟩ := hrel
        obtain ⟨V, rfl⟩ : ∃ V, V = wr := ⟨_, rfl⟩
        have HB := Lib.hid hB
        have HK := Lib.hid hK
        have HO := Lib.hid hO
        have hszV := hB.size
        clear hB hK hO
        by_cases hlt : i < n
        · have hltI : (i : Int) < (n : Int) := by omega
          obtain ⟨jx, hjx⟩ : ∃ j, j = (i + pk) % LP := ⟨_, rfl⟩
          have hjL : jx < LP := by rw [hjx]; exact Nat.mod_lt _ (by omega)
          obtain ⟨bx, hxa, hbx, hxc, _⟩ := part_at HN4.out.cx.parts i (by rw [← HN.out]; exact hlt)
          obtain ⟨bp, hpa, hbp, hpc, _⟩ := part_at HN4.out.cc.parts jx (by rw [← HLPP.out]; exact hjL)
          obtain ⟨sx, hsx⟩ : ∃ s, s = (f.x.parts.getD i ⟨⟨#[]⟩, ⟨#[]⟩⟩).id := ⟨_, rfl⟩
          obtain ⟨sp, hsp⟩ : ∃ s, s = (PP.getD jx ⟨⟨#[]⟩, ⟨#[]⟩⟩).id := ⟨_, rfl⟩
          rw [← hsx] at hxc
          rw [← hsp] at hpc
          have hrow : rowMp f.x.parts PP pk (i + 1) = rowMp f.x.parts PP pk i ++ [.string sx, .string sp] := by rw [rowMp_succ, hsx, hsp, hjx, HLPP.out]
          have f5 : ((i : Int) + (pk : Int)) % (LP : Int) = (jx : Int) := by rw [hjx, Int.natCast_emod]; rfl
          have f6 : ((i : Int) + (pk : Int)).tmod (LP : Int) = (jx : Int) := by rw [Int.tmod_eq_emod_of_nonneg (by omega)]; exact f5
          have hw1 : IntKind.i64.wrap ((i : Int) + (pk : Int)) = (i : Int) + (pk : Int) := by rw [IntKind.wrap_i64]; omega
          have hw2 : IntKind.i64.wrap (jx : Int) = (jx : Int) := by rw [IntKind.wrap_i64]; omega
          have hjI : (jx : Int) < (LP : Int) := by omega
          have hL0 : ¬ LP = 0 := by omega
          have HXC := Lib.hid hxc
          have HPC := Lib.hid hpc
          have HROW := Lib.hid hrow
          have HBV := Lib.hid HB.out
          have HXA := Lib.hid hxa
          have HPA := Lib.hid hpa
          have d0 := HB.out.drew
          have hi4 : (i : Int) ≤ 4 := by omega
          clear hjx hsx hsp hrow hxc hpc hxa hpa
          go_upto_region 11 with fail
          refine wp_region_HT 25 (fun U => Below V4.heap.size V4 U ∧ Blk U g9 33 #[.int .i64 8, .string ⟨#[99, 97, 108, 108]⟩, .string ⟨#[]⟩, .slice none 0 0, .slice none 0 0, .bool false, .string ⟨#[100]⟩, .slice AM i cM, .slice none 0 0, .slice none 0 0]) (by kernel_rfl) (by decide) (⟨d0, HK.out⟩) (fun hHeld => ?_)
          refine ht_take 0 (v := ?vh_1) rfl (by kernel_rfl) (fun _ _ _ h => h) (Or.inl ⟨by rfl, ?hh_1⟩) hHeld ?rh_1
          case hh_1 => ((intro U hSw; have yx := HXA.out; have yp := HPA.out; have y9 : U.cell? ⟨g9, 7, none⟩ = some (.slice AM i cM) := hSw.2.cell 7; have y6 : U.cell? ⟨f.g6, 1, none⟩ = some (.slice f.XP n f.kP) := (hSw.1.cell (p := ⟨f.g6, 1, none⟩) h64).trans HY6.out; have y7 : U.cell? ⟨f.g7, 1, none⟩ = some (.slice AP2 LP cP2) := (hSw.1.cell (p := ⟨f.g7, 1, none⟩) h74).trans HY7.out; have yc : U.cell? ⟨bx, i * 2, none⟩ = some (.string sx) := (hSw.1.cell (p := ⟨bx, i * 2, none⟩) hbx).trans HXC.out; have yd : U.cell? ⟨bp, jx * 2, none⟩ = some (.string sp) := (hSw.1.cell (p := ⟨bp, jx * 2, none⟩) hbp).trans HPC.out; go_simp; (try simp only [hw1, f5, f6, hw2, if_neg hL0])); (try (with_reducible rfl)))
          try simp only [Act.put, List.setIfInBounds_toArray, List.set_cons_zero, List.set_cons_succ]
          refine ht_take 1 (v := ?vh_2) rfl (by kernel_rfl) (fun _ _ _ h => h) (Or.inl ⟨by rfl, ?hh_2⟩) hHeld ?rh_2
          case hh_2 => ((intro U hSw; have yx := HXA.out; have yp := HPA.out; have y9 : U.cell? ⟨g9, 7, none⟩ = some (.slice AM i cM) := hSw.2.cell 7; have y6 : U.cell? ⟨f.g6, 1, none⟩ = some (.slice f.XP n f.kP) := (hSw.1.cell (p := ⟨f.g6, 1, none⟩) h64).trans HY6.out; have y7 : U.cell? ⟨f.g7, 1, none⟩ = some (.slice AP2 LP cP2) := (hSw.1.cell (p := ⟨f.g7, 1, none⟩) h74).trans HY7.out; have yc : U.cell? ⟨bx, i * 2, none⟩ = some (.string sx) := (hSw.1.cell (p := ⟨bx, i * 2, none⟩) hbx).trans HXC.out; have yd : U.cell? ⟨bp, jx * 2, none⟩ = some (.string sp) := (hSw.1.cell (p := ⟨bp, jx * 2, none⟩) hbp).trans HPC.out; go_simp; (try simp only [hw1, f5, f6, hw2, if_neg hL0])); (try (with_reducible rfl)))
          try simp only [Act.put, List.setIfInBounds_toArray, List.set_cons_zero, List.set_cons_succ]
          refine ht_take 2 (v := ?vh_3) rfl (by kernel_rfl) (fun _ _ _ h => h) (Or.inl ⟨by rfl, ?hh_3⟩) hHeld ?rh_3
          case hh_3 => ((intro U hSw; have yx := HXA.out; have yp := HPA.out; have y9 : U.cell? ⟨g9, 7, none⟩ = some (.slice AM i cM) := hSw.2.cell 7; have y6 : U.cell? ⟨f.g6, 1, none⟩ = some (.slice f.XP n f.kP) := (hSw.1.cell (p := ⟨f.g6, 1, none⟩) h64).trans HY6.out; have y7 : U.cell? ⟨f.g7, 1, none⟩ = some (.slice AP2 LP cP2) := (hSw.1.cell (p := ⟨f.g7, 1, none⟩) h74).trans HY7.out; have yc : U.cell? ⟨bx, i * 2, none⟩ = some (.string sx) := (hSw.1.cell (p := ⟨bx, i * 2, none⟩) hbx).trans HXC.out; have yd : U.cell? ⟨bp, jx * 2, none⟩ = some (.string sp) := (hSw.1.cell (p := ⟨bp, jx * 2, none⟩) hbp).trans HPC.out; go_simp; (try simp only [hw1, f5, f6, hw2, if_neg hL0])); (try (with_reducible rfl)))
          try simp only [Act.put, List.setIfInBounds_toArray, List.set_cons_zero, List.set_cons_succ]
          refine ht_take 3 (v := ?vh_4) rfl (by kernel_rfl) (fun _ _ _ h => h) (Or.inl ⟨by rfl, ?hh_4⟩) hHeld ?rh_4
          case hh_4 => ((intro U hSw; have yx := HXA.out; have yp := HPA.out; have y9 : U.cell? ⟨g9, 7, none⟩ = some (.slice AM i cM) := hSw.2.cell 7; have y6 : U.cell? ⟨f.g6, 1, none⟩ = some (.slice f.XP n f.kP) := (hSw.1.cell (p := ⟨f.g6, 1, none⟩) h64).trans HY6.out; have y7 : U.cell? ⟨f.g7, 1, none⟩ = some (.slice AP2 LP cP2) := (hSw.1.cell (p := ⟨f.g7, 1, none⟩) h74).trans HY7.out; have yc : U.cell? ⟨bx, i * 2, none⟩ = some (.string sx) := (hSw.1.cell (p := ⟨bx, i * 2, none⟩) hbx).trans HXC.out; have yd : U.cell? ⟨bp, jx * 2, none⟩ = some (.string sp) := (hSw.1.cell (p := ⟨bp, jx * 2, none⟩) hbp).trans HPC.out; go_simp; (try simp only [hw1, f5, f6, hw2, if_neg hL0])); (try (with_reducible rfl)))
          try simp only [Act.put, List.setIfInBounds_toArray, List.set_cons_zero, List.set_cons_succ]
          refine ht_take 4 (v := ?vh_5) rfl (by kernel_rfl) (fun _ _ _ h => h) (Or.inl ⟨by rfl, ?hh_5⟩) hHeld ?rh_5
          case hh_5 => ((intro U hSw; have yx := HXA.out; have yp := HPA.out; have y9 : U.cell? ⟨g9, 7, none⟩ = some (.slice AM i cM) := hSw.2.cell 7; have y6 : U.cell? ⟨f.g6, 1, none⟩ = some (.slice f.XP n f.kP) := (hSw.1.cell (p := ⟨f.g6, 1, none⟩) h64).trans HY6.out; have y7 : U.cell? ⟨f.g7, 1, none⟩ = some (.slice AP2 LP cP2) := (hSw.1.cell (p := ⟨f.g7, 1, none⟩) h74).trans HY7.out; have yc : U.cell? ⟨bx, i * 2, none⟩ = some (.string sx) := (hSw.1.cell (p := ⟨bx, i * 2, none⟩) hbx).trans HXC.out; have yd : U.cell? ⟨bp, jx * 2, none⟩ = some (.string sp) := (hSw.1.cell (p := ⟨bp, jx * 2, none⟩) hbp).trans HPC.out; go_simp; (try simp only [hw1, f5, f6, hw2, if_neg hL0])); (try (with_reducible rfl)))
          try simp only [Act.put, List.setIfInBounds_toArray, List.set_cons_zero, List.set_cons_succ]
          refine ht_take 5 (v := ?vh_6) rfl (by kernel_rfl) (fun _ _ _ h => h) (Or.inl ⟨by rfl, ?hh_6⟩) hHeld ?rh_6
          case hh_6 => ((intro U hSw; have yx := HXA.out; have yp := HPA.out; have y9 : U.cell? ⟨g9, 7, none⟩ = some (.slice AM i cM) := hSw.2.cell 7; have y6 : U.cell? ⟨f.g6, 1, none⟩ = some (.slice f.XP n f.kP) := (hSw.1.cell (p := ⟨f.g6, 1, none⟩) h64).trans HY6.out; have y7 : U.cell? ⟨f.g7, 1, none⟩ = some (.slice AP2 LP cP2) := (hSw.1.cell (p := ⟨f.g7, 1, none⟩) h74).trans HY7.out; have yc : U.cell? ⟨bx, i * 2, none⟩ = some (.string sx) := (hSw.1.cell (p := ⟨bx, i * 2, none⟩) hbx).trans HXC.out; have yd : U.cell? ⟨bp, jx * 2, none⟩ = some (.string sp) := (hSw.1.cell (p := ⟨bp, jx * 2, none⟩) hbp).trans HPC.out; go_simp; (try simp only [hw1, f5, f6, hw2, if_neg hL0])); (try (with_reducible rfl)))
          try simp only [Act.put, List.setIfInBounds_toArray, List.set_cons_zero, List.set_cons_succ]
          refine ht_take 6 (v := ?vh_7) rfl (by kernel_rfl) (fun _ _ _ h => h) (Or.inl ⟨by rfl, ?hh_7⟩) hHeld ?rh_7
          case hh_7 => ((intro U hSw; have yx := HXA.out; have yp := HPA.out; have y9 : U.cell? ⟨g9, 7, none⟩ = some (.slice AM i cM) := hSw.2.cell 7; have y6 : U.cell? ⟨f.g6, 1, none⟩ = some (.slice f.XP n f.kP) := (hSw.1.cell (p := ⟨f.g6, 1, none⟩) h64).trans HY6.out; have y7 : U.cell? ⟨f.g7, 1, none⟩ = some (.slice AP2 LP cP2) := (hSw.1.cell (p := ⟨f.g7, 1, none⟩) h74).trans HY7.out; have yc : U.cell? ⟨bx, i * 2, none⟩ = some (.string sx) := (hSw.1.cell (p := ⟨bx, i * 2, none⟩) hbx).trans HXC.out; have yd : U.cell? ⟨bp, jx * 2, none⟩ = some (.string sp) := (hSw.1.cell (p := ⟨bp, jx * 2, none⟩) hbp).trans HPC.out; go_simp; (try simp only [hw1, f5, f6, hw2, if_neg hL0])); (try (with_reducible rfl)))
          try simp only [Act.put, List.setIfInBounds_toArray, List.set_cons_zero, List.set_cons_succ]
          refine ht_take 7 (v := ?vh_8) rfl (by kernel_rfl) (fun _ _ _ h => h) (Or.inl ⟨by rfl, ?hh_8⟩) hHeld ?rh_8
          case hh_8 => ((intro U hSw; have yx := HXA.out; have yp := HPA.out; have y9 : U.cell? ⟨g9, 7, none⟩ = some (.slice AM i cM) := hSw.2.cell 7; have y6 : U.cell? ⟨f.g6, 1, none⟩ = some (.slice f.XP n f.kP) := (hSw.1.cell (p := ⟨f.g6, 1, none⟩) h64).trans HY6.out; have y7 : U.cell? ⟨f.g7, 1, none⟩ = some (.slice AP2 LP cP2) := (hSw.1.cell (p := ⟨f.g7, 1, none⟩) h74).trans HY7.out; have yc : U.cell? ⟨bx, i * 2, none⟩ = some (.string sx) := (hSw.1.cell (p := ⟨bx, i * 2, none⟩) hbx).trans HXC.out; have yd : U.cell? ⟨bp, jx * 2, none⟩ = some (.string sp) := (hSw.1.cell (p := ⟨bp, jx * 2, none⟩) hbp).trans HPC.out; go_simp; (try simp only [hw1, f5, f6, hw2, if_neg hL0])); (try (with_reducible rfl)))
          try simp only [Act.put, List.setIfInBounds_toArray, List.set_cons_zero, List.set_cons_succ]
          refine ht_take 8 (v := ?vh_9) rfl (by kernel_rfl) (fun _ _ _ h => h) (Or.inl ⟨by rfl, ?hh_9⟩) hHeld ?rh_9
          case hh_9 => ((intro U hSw; have yx := HXA.out; have yp := HPA.out; have y9 : U.cell? ⟨g9, 7, none⟩ = some (.slice AM i cM) := hSw.2.cell 7; have y6 : U.cell? ⟨f.g6, 1, none⟩ = some (.slice f.XP n f.kP) := (hSw.1.cell (p := ⟨f.g6, 1, none⟩) h64).trans HY6.out; have y7 : U.cell? ⟨f.g7, 1, none⟩ = some (.slice AP2 LP cP2) := (hSw.1.cell (p := ⟨f.g7, 1, none⟩) h74).trans HY7.out; have yc : U.cell? ⟨bx, i * 2, none⟩ = some (.string sx) := (hSw.1.cell (p := ⟨bx, i * 2, none⟩) hbx).trans HXC.out; have yd : U.cell? ⟨bp, jx * 2, none⟩ = some (.string sp) := (hSw.1.cell (p := ⟨bp, jx * 2, none⟩) hbp).trans HPC.out; go_simp; (try simp only [hw1, f5, f6, hw2, if_neg hL0])); (try (with_reducible rfl)))
          try simp only [Act.put, List.setIfInBounds_toArray, List.set_cons_zero, List.set_cons_succ]
          refine ht_take 9 (v := ?vh_10) rfl (by kernel_rfl) (fun _ _ _ h => h) (Or.inl ⟨by rfl, ?hh_10⟩) hHeld ?rh_10
          case hh_10 => ((intro U hSw; have yx := HXA.out; have yp := HPA.out; have y9 : U.cell? ⟨g9, 7, none⟩ = some (.slice AM i cM) := hSw.2.cell 7; have y6 : U.cell? ⟨f.g6, 1, none⟩ = some (.slice f.XP n f.kP) := (hSw.1.cell (p := ⟨f.g6, 1, none⟩) h64).trans HY6.out; have y7 : U.cell? ⟨f.g7, 1, none⟩ = some (.slice AP2 LP cP2) := (hSw.1.cell (p := ⟨f.g7, 1, none⟩) h74).trans HY7.out; have yc : U.cell? ⟨bx, i * 2, none⟩ = some (.string sx) := (hSw.1.cell (p := ⟨bx, i * 2, none⟩) hbx).trans HXC.out; have yd : U.cell? ⟨bp, jx * 2, none⟩ = some (.string sp) := (hSw.1.cell (p := ⟨bp, jx * 2, none⟩) hbp).trans HPC.out; go_simp; (try simp only [hw1, f5, f6, hw2, if_neg hL0])); (try (with_reducible rfl)))
          try simp only [Act.put, List.setIfInBounds_toArray, List.set_cons_zero, List.set_cons_succ]
          refine ht_take 10 (v := ?vh_11) rfl (by kernel_rfl) (fun _ _ _ h => h) (Or.inl ⟨by rfl, ?hh_11⟩) hHeld ?rh_11
          case hh_11 => ((intro U hSw; have yx := HXA.out; have yp := HPA.out; have y9 : U.cell? ⟨g9, 7, none⟩ = some (.slice AM i cM) := hSw.2.cell 7; have y6 : U.cell? ⟨f.g6, 1, none⟩ = some (.slice f.XP n f.kP) := (hSw.1.cell (p := ⟨f.g6, 1, none⟩) h64).trans HY6.out; have y7 : U.cell? ⟨f.g7, 1, none⟩ = some (.slice AP2 LP cP2) := (hSw.1.cell (p := ⟨f.g7, 1, none⟩) h74).trans HY7.out; have yc : U.cell? ⟨bx, i * 2, none⟩ = some (.string sx) := (hSw.1.cell (p := ⟨bx, i * 2, none⟩) hbx).trans HXC.out; have yd : U.cell? ⟨bp, jx * 2, none⟩ = some (.string sp) := (hSw.1.cell (p := ⟨bp, jx * 2, none⟩) hbp).trans HPC.out; go_simp; (try simp only [hw1, f5, f6, hw2, if_neg hL0])); (try (with_reducible rfl)))
          try simp only [Act.put, List.setIfInBounds_toArray, List.set_cons_zero, List.set_cons_succ]
          refine ht_take 11 (v := ?vh_12) rfl (by kernel_rfl) (fun _ _ _ h => h) (Or.inl ⟨by rfl, ?hh_12⟩) hHeld ?rh_12
          case hh_12 => ((intro U hSw; have yx := HXA.out; have yp := HPA.out; have y9 : U.cell? ⟨g9, 7, none⟩ = some (.slice AM i cM) := hSw.2.cell 7; have y6 : U.cell? ⟨f.g6, 1, none⟩ = some (.slice f.XP n f.kP) := (hSw.1.cell (p := ⟨f.g6, 1, none⟩) h64).trans HY6.out; have y7 : U.cell? ⟨f.g7, 1, none⟩ = some (.slice AP2 LP cP2) := (hSw.1.cell (p := ⟨f.g7, 1, none⟩) h74).trans HY7.out; have yc : U.cell? ⟨bx, i * 2, none⟩ = some (.string sx) := (hSw.1.cell (p := ⟨bx, i * 2, none⟩) hbx).trans HXC.out; have yd : U.cell? ⟨bp, jx * 2, none⟩ = some (.string sp) := (hSw.1.cell (p := ⟨bp, jx * 2, none⟩) hbp).trans HPC.out; go_simp; (try simp only [hw1, f5, f6, hw2, if_neg hL0])); (try (with_reducible rfl)))
          try simp only [Act.put, List.setIfInBounds_toArray, List.set_cons_zero, List.set_cons_succ]
          refine ht_take 14 (v := ?vh_13) rfl (by kernel_rfl) (fun _ _ _ h => h) (Or.inl ⟨by rfl, ?hh_13⟩) hHeld ?rh_13
          case hh_13 => ((intro U hSw; have yx := HXA.out; have yp := HPA.out; have y9 : U.cell? ⟨g9, 7, none⟩ = some (.slice AM i cM) := hSw.2.cell 7; have y6 : U.cell? ⟨f.g6, 1, none⟩ = some (.slice f.XP n f.kP) := (hSw.1.cell (p := ⟨f.g6, 1, none⟩) h64).trans HY6.out; have y7 : U.cell? ⟨f.g7, 1, none⟩ = some (.slice AP2 LP cP2) := (hSw.1.cell (p := ⟨f.g7, 1, none⟩) h74).trans HY7.out; have yc : U.cell? ⟨bx, i * 2, none⟩ = some (.string sx) := (hSw.1.cell (p := ⟨bx, i * 2, none⟩) hbx).trans HXC.out; have yd : U.cell? ⟨bp, jx * 2, none⟩ = some (.string sp) := (hSw.1.cell (p := ⟨bp, jx * 2, none⟩) hbp).trans HPC.out; go_simp; (try simp only [hw1, f5, f6, hw2, if_neg hL0])); (try (with_reducible rfl)))
          try simp only [Act.put, List.setIfInBounds_toArray, List.set_cons_zero, List.set_cons_succ]
          refine ht_take 15 (v := ?vh_14) rfl (by kernel_rfl) (fun _ _ _ h => h) (Or.inl ⟨by rfl, ?hh_14⟩) hHeld ?rh_14
          case hh_14 => ((intro U hSw; have yx := HXA.out; have yp := HPA.out; have y9 : U.cell? ⟨g9, 7, none⟩ = some (.slice AM i cM) := hSw.2.cell 7; have y6 : U.cell? ⟨f.g6, 1, none⟩ = some (.slice f.XP n f.kP) := (hSw.1.cell (p := ⟨f.g6, 1, none⟩) h64).trans HY6.out; have y7 : U.cell? ⟨f.g7, 1, none⟩ = some (.slice AP2 LP cP2) := (hSw.1.cell (p := ⟨f.g7, 1, none⟩) h74).trans HY7.out; have yc : U.cell? ⟨bx, i * 2, none⟩ = some (.string sx) := (hSw.1.cell (p := ⟨bx, i * 2, none⟩) hbx).trans HXC.out; have yd : U.cell? ⟨bp, jx * 2, none⟩ = some (.string sp) := (hSw.1.cell (p := ⟨bp, jx * 2, none⟩) hbp).trans HPC.out; go_simp; (try simp only [hw1, f5, f6, hw2, if_neg hL0])); (try (with_reducible rfl)))
          try simp only [Act.put, List.setIfInBounds_toArray, List.set_cons_zero, List.set_cons_succ]
          refine ht_take 16 (v := ?vh_15) rfl (by kernel_rfl) (fun _ _ _ h => h) (Or.inl ⟨by rfl, ?hh_15⟩) hHeld ?rh_15
          case hh_15 => ((intro U hSw; have yx := HXA.out; have yp := HPA.out; have y9 : U.cell? ⟨g9, 7, none⟩ = some (.slice AM i cM) := hSw.2.cell 7; have y6 : U.cell? ⟨f.g6, 1, none⟩ = some (.slice f.XP n f.kP) := (hSw.1.cell (p := ⟨f.g6, 1, none⟩) h64).trans HY6.out; have y7 : U.cell? ⟨f.g7, 1, none⟩ = some (.slice AP2 LP cP2) := (hSw.1.cell (p := ⟨f.g7, 1, none⟩) h74).trans HY7.out; have yc : U.cell? ⟨bx, i * 2, none⟩ = some (.string sx) := (hSw.1.cell (p := ⟨bx, i * 2, none⟩) hbx).trans HXC.out; have yd : U.cell? ⟨bp, jx * 2, none⟩ = some (.string sp) := (hSw.1.cell (p := ⟨bp, jx * 2, none⟩) hbp).trans HPC.out; go_simp; (try simp only [hw1, f5, f6, hw2, if_neg hL0])); (try (with_reducible rfl)))
          try simp only [Act.put, List.setIfInBounds_toArray, List.set_cons_zero, List.set_cons_succ]
          refine ht_one 12 rfl (by kernel_rfl) (fun K hK => ?_)
          go_simp
          refine (pick_any (HBQ.out.below d0) HLQ.out 1 (by omega)).mono ?_
          rintro e w4 ⟨rfl, rfl⟩
          rw [← HPK.out]
          go_wp2_with fail
          refine hK.out _ _ (⟨d0, HK.out⟩) (fun hHeld => ?_)
          clear hK K
          try simp only [Act.put, List.setIfInBounds_toArray, List.set_cons_zero, List.set_cons_succ]
          refine ht_take 13 (v := ?vh_16) rfl (by kernel_rfl) (fun _ _ _ h => h) (Or.inl ⟨by rfl, ?hh_16⟩) hHeld ?rh_16
          case hh_16 => ((intro U hSw; have yx := HXA.out; have yp := HPA.out; have y9 : U.cell? ⟨g9, 7, none⟩ = some (.slice AM i cM) := hSw.2.cell 7; have y6 : U.cell? ⟨f.g6, 1, none⟩ = some (.slice f.XP n f.kP) := (hSw.1.cell (p := ⟨f.g6, 1, none⟩) h64).trans HY6.out; have y7 : U.cell? ⟨f.g7, 1, none⟩ = some (.slice AP2 LP cP2) := (hSw.1.cell (p := ⟨f.g7, 1, none⟩) h74).trans HY7.out; have yc : U.cell? ⟨bx, i * 2, none⟩ = some (.string sx) := (hSw.1.cell (p := ⟨bx, i * 2, none⟩) hbx).trans HXC.out; have yd : U.cell? ⟨bp, jx * 2, none⟩ = some (.string sp) := (hSw.1.cell (p := ⟨bp, jx * 2, none⟩) hbp).trans HPC.out; go_simp; (try simp only [hw1, f5, f6, hw2, if_neg hL0])); (try (with_reducible rfl)))
          try simp only [Act.put, List.setIfInBounds_toArray, List.set_cons_zero, List.set_cons_succ]
          refine ht_take 17 (v := ?vh_17) rfl (by kernel_rfl) (fun _ _ _ h => h) (Or.inl ⟨by rfl, ?hh_17⟩) hHeld ?rh_17
          case hh_17 => ((intro U hSw; have yx := HXA.out; have yp := HPA.out; have y9 : U.cell? ⟨g9, 7, none⟩ = some (.slice AM i cM) := hSw.2.cell 7; have y6 : U.cell? ⟨f.g6, 1, none⟩ = some (.slice f.XP n f.kP) := (hSw.1.cell (p := ⟨f.g6, 1, none⟩) h64).trans HY6.out; have y7 : U.cell? ⟨f.g7, 1, none⟩ = some (.slice AP2 LP cP2) := (hSw.1.cell (p := ⟨f.g7, 1, none⟩) h74).trans HY7.out; have yc : U.cell? ⟨bx, i * 2, none⟩ = some (.string sx) := (hSw.1.cell (p := ⟨bx, i * 2, none⟩) hbx).trans HXC.out; have yd : U.cell? ⟨bp, jx * 2, none⟩ = some (.string sp) := (hSw.1.cell (p := ⟨bp, jx * 2, none⟩) hbp).trans HPC.out; go_simp; (try simp only [hw1, f5, f6, hw2, if_neg hL0])); (try (with_reducible rfl)))
          try simp only [Act.put, List.setIfInBounds_toArray, List.set_cons_zero, List.set_cons_succ]
          refine ht_take 18 (v := ?vh_18) rfl (by kernel_rfl) (fun _ _ _ h => h) (Or.inl ⟨by rfl, ?hh_18⟩) hHeld ?rh_18
          case hh_18 => ((intro U hSw; have yx := HXA.out; have yp := HPA.out; have y9 : U.cell? ⟨g9, 7, none⟩ = some (.slice AM i cM) := hSw.2.cell 7; have y6 : U.cell? ⟨f.g6, 1, none⟩ = some (.slice f.XP n f.kP) := (hSw.1.cell (p := ⟨f.g6, 1, none⟩) h64).trans HY6.out; have y7 : U.cell? ⟨f.g7, 1, none⟩ = some (.slice AP2 LP cP2) := (hSw.1.cell (p := ⟨f.g7, 1, none⟩) h74).trans HY7.out; have yc : U.cell? ⟨bx, i * 2, none⟩ = some (.string sx) := (hSw.1.cell (p := ⟨bx, i * 2, none⟩) hbx).trans HXC.out; have yd : U.cell? ⟨bp, jx * 2, none⟩ = some (.string sp) := (hSw.1.cell (p := ⟨bp, jx * 2, none⟩) hbp).trans HPC.out; go_simp; (try simp only [hw1, f5, f6, hw2, if_neg hL0])); (try (with_reducible rfl)))
          try simp only [Act.put, List.setIfInBounds_toArray, List.set_cons_zero, List.set_cons_succ]
          refine ht_take 19 (v := ?vh_19) rfl (by kernel_rfl) (fun _ _ _ h => h) (Or.inl ⟨by rfl, ?hh_19⟩) hHeld ?rh_19
          case hh_19 => ((intro U hSw; have yx := HXA.out; have yp := HPA.out; have y9 : U.cell? ⟨g9, 7, none⟩ = some (.slice AM i cM) := hSw.2.cell 7; have y6 : U.cell? ⟨f.g6, 1, none⟩ = some (.slice f.XP n f.kP) := (hSw.1.cell (p := ⟨f.g6, 1, none⟩) h64).trans HY6.out; have y7 : U.cell? ⟨f.g7, 1, none⟩ = some (.slice AP2 LP cP2) := (hSw.1.cell (p := ⟨f.g7, 1, none⟩) h74).trans HY7.out; have yc : U.cell? ⟨bx, i * 2, none⟩ = some (.string sx) := (hSw.1.cell (p := ⟨bx, i * 2, none⟩) hbx).trans HXC.out; have yd : U.cell? ⟨bp, jx * 2, none⟩ = some (.string sp) := (hSw.1.cell (p := ⟨bp, jx * 2, none⟩) hbp).trans HPC.out; go_simp; (try simp only [hw1, f5, f6, hw2, if_neg hL0])); (try (with_reducible rfl)))
          try simp only [Act.put, List.setIfInBounds_toArray, List.set_cons_zero, List.set_cons_succ]
          refine ht_take 20 (v := ?vh_20) rfl (by kernel_rfl) (fun _ _ _ h => h) (Or.inl ⟨by rfl, ?hh_20⟩) hHeld ?rh_20
          case hh_20 => ((intro U hSw; have yx := HXA.out; have yp := HPA.out; have y9 : U.cell? ⟨g9, 7, none⟩ = some (.slice AM i cM) := hSw.2.cell 7; have y6 : U.cell? ⟨f.g6, 1, none⟩ = some (.slice f.XP n f.kP) := (hSw.1.cell (p := ⟨f.g6, 1, none⟩) h64).trans HY6.out; have y7 : U.cell? ⟨f.g7, 1, none⟩ = some (.slice AP2 LP cP2) := (hSw.1.cell (p := ⟨f.g7, 1, none⟩) h74).trans HY7.out; have yc : U.cell? ⟨bx, i * 2, none⟩ = some (.string sx) := (hSw.1.cell (p := ⟨bx, i * 2, none⟩) hbx).trans HXC.out; have yd : U.cell? ⟨bp, jx * 2, none⟩ = some (.string sp) := (hSw.1.cell (p := ⟨bp, jx * 2, none⟩) hbp).trans HPC.out; go_simp; (try simp only [hw1, f5, f6, hw2, if_neg hL0])); (try (with_reducible rfl)))
          try simp only [Act.put, List.setIfInBounds_toArray, List.set_cons_zero, List.set_cons_succ]
          refine ht_take 21 (v := ?vh_21) rfl (by kernel_rfl) (fun _ _ _ h => h) (Or.inl ⟨by rfl, ?hh_21⟩) hHeld ?rh_21
          case hh_21 => ((intro U hSw; have yx := HXA.out; have yp := HPA.out; have y9 : U.cell? ⟨g9, 7, none⟩ = some (.slice AM i cM) := hSw.2.cell 7; have y6 : U.cell? ⟨f.g6, 1, none⟩ = some (.slice f.XP n f.kP) := (hSw.1.cell (p := ⟨f.g6, 1, none⟩) h64).trans HY6.out; have y7 : U.cell? ⟨f.g7, 1, none⟩ = some (.slice AP2 LP cP2) := (hSw.1.cell (p := ⟨f.g7, 1, none⟩) h74).trans HY7.out; have yc : U.cell? ⟨bx, i * 2, none⟩ = some (.string sx) := (hSw.1.cell (p := ⟨bx, i * 2, none⟩) hbx).trans HXC.out; have yd : U.cell? ⟨bp, jx * 2, none⟩ = some (.string sp) := (hSw.1.cell (p := ⟨bp, jx * 2, none⟩) hbp).trans HPC.out; go_simp; (try simp only [hw1, f5, f6, hw2, if_neg hL0])); (try (with_reducible rfl)))
          try simp only [Act.put, List.setIfInBounds_toArray, List.set_cons_zero, List.set_cons_succ]
          refine ht_one 22 rfl (by kernel_rfl) (fun K hK => ?_)
          go_simp
          obtain ⟨gG, hgG⟩ : ∃ g, g = V.heap.size := ⟨_, rfl⟩
          obtain ⟨T1, hT⟩ : ∃ T, T = V.drew.alloc (.cells #[.string sx, .string sp] 73) := ⟨_, rfl⟩
          have d1 : Below V4.heap.size V4 T1 := by rw [hT]; exact d0.alloc d0.size _
          have kG1 : Blk T1 gG 73 #[.string sx, .string sp] := by rw [hT, hgG]; exact Blk.new _ _ _
          have k91 : Blk T1 g9 33 #[.int .i64 8, .string ⟨#[99, 97, 108, 108]⟩, .string ⟨#[]⟩, .slice none 0 0, .slice none 0 0, .bool false, .string ⟨#[100]⟩, .slice AM i cM, .slice none 0 0, .slice none 0 0] := by rw [hT]; exact HK.out.alloc _
          have o1 : T1.ownsRow V4.heap.size 73 2 (.slice AM i cM) i (rowMp f.x.parts PP pk i) := by rw [hT]; exact HO.out.alloc _
          show K _ ((V.drew).alloc (.cells #[.string sx, .string sp] 73))
          rw [← hT, ← hgG]
          clear hT hgG
          refine hK.out _ _ (⟨d1, k91⟩) (fun hHeld => ?_)
          clear hK K
          try simp only [Act.put, List.setIfInBounds_toArray, List.set_cons_zero, List.set_cons_succ]
          refine ht_one 23 rfl (by kernel_rfl) (fun K hK => ?_)
          refine step_append_lies _ (by rfl) (.tmp 52) (.tmp 73) _ (by rfl) V4.heap.size 73 mi0 _ 2 32 Try.underlying31 hmi0 hmz0 hmz1 hmz2 rfl (by omega) (.slice AM i cM) i (rowMp f.x.parts PP pk i) (by rfl) o1 ⟨gG, 0, none⟩ 1 1 [.string sx, .string sp] (by rfl) (by rfl) (World.news_of_block (cs := #[.string sx, .string sp]) (t := 73) (fr := (0, 0)) kG1) (by simp [Value.oneCell']) (by omega) (by unfold maxLen; omega) (by omega) (by have := d1.size; omega) _ rfl ?_
          intro gX capX T2 hownX hgrowX _ _
          have d2 : Below V4.heap.size V4 T2 := d1.grown hgrowX d1.size (fun j hj => (o1.lt j hj).1)
          have k92 : Blk T2 g9 33 #[.int .i64 8, .string ⟨#[99, 97, 108, 108]⟩, .string ⟨#[]⟩, .slice none 0 0, .slice none 0 0, .bool false, .string ⟨#[100]⟩, .slice AM i cM, .slice none 0 0, .slice none 0 0] := k91.grown hgrowX (fun e => blk_own_ne o1 k91 (by decide) e.symm)
          clear hgrowX
          refine hK.out _ _ (⟨d2, k92⟩) (fun hHeld => ?_)
          clear hK K
          try simp only [Act.put, List.setIfInBounds_toArray, List.set_cons_zero, List.set_cons_succ]
          refine ht_take 24 (v := ?vh_22) rfl (by kernel_rfl) (fun _ _ _ h => h) (Or.inl ⟨by rfl, ?hh_22⟩) hHeld ?rh_22
          case hh_22 => ((intro U hSw; have yx := HXA.out; have yp := HPA.out; have y9 : U.cell? ⟨g9, 7, none⟩ = some (.slice AM i cM) := hSw.2.cell 7; have y6 : U.cell? ⟨f.g6, 1, none⟩ = some (.slice f.XP n f.kP) := (hSw.1.cell (p := ⟨f.g6, 1, none⟩) h64).trans HY6.out; have y7 : U.cell? ⟨f.g7, 1, none⟩ = some (.slice AP2 LP cP2) := (hSw.1.cell (p := ⟨f.g7, 1, none⟩) h74).trans HY7.out; have yc : U.cell? ⟨bx, i * 2, none⟩ = some (.string sx) := (hSw.1.cell (p := ⟨bx, i * 2, none⟩) hbx).trans HXC.out; have yd : U.cell? ⟨bp, jx * 2, none⟩ = some (.string sp) := (hSw.1.cell (p := ⟨bp, jx * 2, none⟩) hbp).trans HPC.out; go_simp; (try simp only [hw1, f5, f6, hw2, if_neg hL0])); (try (with_reducible rfl)))
          try simp only [Act.put, List.setIfInBounds_toArray, List.set_cons_zero, List.set_cons_succ]
          refine ht_done (by kernel_rfl) rfl ?_
          have hown2 := ownsRow_setCell_other (a := ⟨g9, 7, none⟩) hownX (fun e => blk_own_ne hownX k92 (by decide) e) (.slice (some ⟨gX, 0, none⟩) (i + 1) capX)
          have HW1 := Lib.hid (d2.setCell (p := ⟨g9, 7, none⟩) hg9V (.slice (some ⟨gX, 0, none⟩) (i + 1) capX))
          have HW2 := Lib.hid (k92.set_ 7 (.slice (some ⟨gX, 0, none⟩) (i + 1) capX))
          rw [← HROW.out] at hown2
          have HW3 := Lib.hid hown2
          have z1 : T2.cell? ⟨g9, 7, none⟩ = some (.slice AM i cM) := k92.cell 7
          have zf : T2.frozen? ⟨g9, 7, none⟩ = false := k92.frozen 7
          have hlk := k92.lt
          clear hown2 hownX k92 d2
          go_wp2_with fail
          go_roundw
          case rel => exact ⟨i + 1, _, _, by omega, by go_num, HW1.out, HW2.out, HW3.out⟩
          case measure => simp [intOf]; omega
        · have hltI : ¬ (i : Int) < (n : Int) := by omega
          have hin : i = n := by omega
          subst hin
          go_wp2_with fail
          go_meet
          case rel => exact ⟨AM, cM, HB.out, HK.out, HO.out⟩
    case rest =>
      obtain ⟨AM, cM, hB5, hK9, hO5⟩ := hcut
      obtain ⟨Z5, rfl⟩ : ∃ V, V = wc := ⟨_, rfl⟩
      have hN5 := HN4.out.below hB5
      obtain ⟨mps, hmps⟩ : ∃ m, m = gmapsF f.x.parts PP pk n := ⟨_, rfl⟩
      have hmaps : Rd Z5 (mapsD mps) (.slice AM n cM) := by
        rw [hmps]
        refine rd_sl.2 ⟨AM, cM, rowMp f.x.parts PP pk n, ?_, ?_, rowMp_rd _ _ _ _ _⟩
        · rw [gmapsF_len]
        · rw [gmapsF_len]
          exact own_mono hO5 (by omega)
      obtain ⟨m0, hm0⟩ : ∃ M : MkD, M = ⟨q, 5, 0, PP, [], [], [], ⟨#[121]⟩⟩ := ⟨_, rfl⟩
      obtain ⟨mi, hmi⟩ : ∃ M, M = glevelF m0 1 := ⟨_, rfl⟩
      have hmi2 : ginF q PP = mi := by rw [hmi, hm0]; rfl
      have hy7 : Z5.cell? ⟨f.g7, 1, none⟩ = some (.slice AP2 PP.length cP2) := hN5.k7.cell 1
      have hM5 : MkR Z5 B capq m0 #[.slice B q.length capq, .int .i64 5, .int .i64 0, .slice AP2 PP.length cP2, .slice none 0 0, .slice none 0 0, .slice none 0 0, .string ⟨#[121]⟩] := by
        rw [hm0]
        exact ⟨AP2, cP2, none, 0, none, 0, none, 0, rfl, hN5.cc.parts, rd_nilG, rd_nilG, rd_nilG⟩
      have hs5 : SmallM 5 m0 := by rw [hm0]; exact ⟨(by decide : (⟨#[121]⟩ : ByteArray).size ≤ 10), HLQ.out, Nat.le_refl _, Nat.zero_le _, Nat.zero_le _, Nat.zero_le _, Nat.zero_le _⟩
      have hp5 : IntsAt Z5 B m0.p := by rw [hm0]; exact HBQ.out.below hB5
      have hl5 : m0.parts.length = LP := by rw [hm0, HLPP.out]
      have hgl := grow_level m0 1
      have hsmall := hgl.small hs5
      rw [← hmi] at hsmall
      have hG1 : gG 1 = 19 := rfl
      rw [hG1] at hsmall
      have hmiF := hsmall.flows
      have hmiI := hsmall.items
      have hmiS := hsmall.seqs
      have HN5 := Lib.hid hN5
      have HK9 := Lib.hid hK9
      have HMAPS := Lib.hid hmaps
      have HMPS := Lib.hid hmps
      have HMI := Lib.hid hmi
      have HMI2 := Lib.hid hmi2
      have HM5 := Lib.hid hM5
      have HS5 := Lib.hid hs5
      have HP5 := Lib.hid hp5
      have HL5 := Lib.hid hl5
      have h95 := hK9.lt
      clear hN5 hB5 hK9 hO5 hmps hmaps hm0 hmi hmi2 hM5 hs5 hp5 hl5 hgl hsmall hG1
      go_upto_region 12 with fail
      go_wp2_with fail
      refine (level_any HP5.out HM5.out HS5.out 1 (by decide) (by rw [HL5.out]; exact hLP2) (by rw [HL5.out]; exact hLP4)).mono ?_
      rintro e w6 ⟨c6, rfl, hM6, hb6⟩
      rw [← HMI.out] at hM6
      obtain ⟨JP, jP, JF, jF, JI, jI, JS, jS, rfl, hC6⟩ := hM6
      obtain ⟨g11, hg11⟩ : ∃ g, g = w6.heap.size := ⟨_, rfl⟩
      obtain ⟨V6, hV6⟩ : ∃ V, V = w6.alloc (.cells #[.slice B mi.p.length capq, .int .i64 mi.at_, .int .i64 mi.n, .slice JP mi.parts.length jP, .slice JF mi.flows.length jF, .slice JI mi.items.length jI, .slice JS mi.seqs.length jS, .string mi.pre] 89) := ⟨_, rfl⟩
      have b66 : Below w6.heap.size w6 V6 := by rw [hV6]; exact (Below.refl _ _).alloc (Nat.le_refl _) _
      have k11 : Blk V6 g11 89 #[.slice B mi.p.length capq, .int .i64 mi.at_, .int .i64 mi.n, .slice JP mi.parts.length jP, .slice JF mi.flows.length jF, .slice JI mi.items.length jI, .slice JS mi.seqs.length jS, .string mi.pre] := by rw [hV6, hg11]; exact Blk.new _ _ _
      have b56 := hb6.trans (b66.mono hb6.size)
      have hC6b := hC6.below b66
      have y5 : V6.cell? ⟨g11, 5, none⟩ = some (.slice JI mi.items.length jI) := k11.cell 5
      have y6 : V6.cell? ⟨g11, 6, none⟩ = some (.slice JS mi.seqs.length jS) := k11.cell 6
      have HV6 := Lib.hid hV6.symm
      have HG11 := Lib.hid hg11.symm
      have HK11 := Lib.hid k11
      have HC6 := Lib.hid hC6b
      have HB56 := Lib.hid b56
      clear hV6 hg11 k11 hC6 hC6b b56 b66 hb6 hy7
      go_upto_region 13 with fail
      rw [HV6.out, HG11.out]
      obtain ⟨g12, hg12⟩ : ∃ g, g = V6.heap.size := ⟨_, rfl⟩
      obtain ⟨V7, hV7⟩ : ∃ V, V = V6.alloc (.cells #[.int .i64 7, .string ⟨#[115, 117, 98]⟩, .string ⟨#[]⟩, .slice none 0 0, .slice none 0 0, .bool false, .string ⟨#[]⟩, .slice none 0 0, .slice JI mi.items.length jI, .slice JS mi.seqs.length jS] 33) := ⟨_, rfl⟩
      have b67 : Below V6.heap.size V6 V7 := by rw [hV7]; exact (Below.refl _ _).alloc (Nat.le_refl _) _
      have k12 : Blk V7 g12 33 #[.int .i64 7, .string ⟨#[115, 117, 98]⟩, .string ⟨#[]⟩, .slice none 0 0, .slice none 0 0, .bool false, .string ⟨#[]⟩, .slice none 0 0, .slice JI mi.items.length jI, .slice JS mi.seqs.length jS] := by rw [hV7, hg12]; exact Blk.new _ _ _
      have b57 := HB56.out.trans (b67.mono HB56.out.size)
      have HN7 := Lib.hid (HN5.out.below b57)
      have HK9b := Lib.hid (HK9.out.below b57 h95)
      have HK11b := Lib.hid (HK11.out.below b67 HK11.out.lt)
      have HK12 := Lib.hid k12
      have HC7 := Lib.hid (HC6.out.below b67)
      have HMAPS7 := Lib.hid (Rd.below b57 _ _ HMAPS.out)
      have HV7 := Lib.hid hV7.symm
      have HG12 := Lib.hid hg12.symm
      clear hV7 hg12 b67 k12 b57
      go_upto_region 14 with fail
      rw [HV7.out, HG12.out]
      clear y5 y6
      obtain ⟨xs1, hr1, hxl1, h11⟩ := rd_reads HN7.out.cc.flows
      obtain ⟨xs2, hr2, hxl2, h12⟩ := rd_reads HC7.out.flows
      have HXR1 := Lib.hid hr1
      have HXL1 := Lib.hid hxl1
      have HX11 := Lib.hid h11
      have HXR2 := Lib.hid hr2
      have HXL2 := Lib.hid hxl2
      have HX12 := Lib.hid h12
      have h77 := HN7.out.k7.lt
      have h117 := HK11b.out.lt
      have HZ2 := Lib.hid (show V7.cell? ⟨f.g7, 2, none⟩ = some (.slice AF c.flows.length cF) from HN7.out.k7.cell 2)
      have HZ4 := Lib.hid (show V7.cell? ⟨g11, 4, none⟩ = some (.slice JF mi.flows.length jF) from HK11b.out.cell 4)
      obtain ⟨fi0, hfi0, hfz0, hfz1, hfz2⟩ := info_parts Try.infoFlowG
      have d0 := (Below.refl V7.heap.size V7).drew
      clear hr1 hxl1 h11 hr2 hxl2 h12
      go_cut [] (fun wx => ∃ AF2 cF2, NS w f PP (c.flows ++ mi.flows) c.items c.seqs AP2 cP2 AF2 cF2 AI cI AS cS wx ∧ V7.grownBy wx (some f.g7))
      case first =>
        refine wp_region_HT 8 (fun U => Below V7.heap.size V7 U) (by kernel_rfl) (by decide) (d0) (fun hHeld => ?_)
        refine ht_take 1 (v := ?vi_1) rfl (by kernel_rfl) (fun _ _ _ h => h) (Or.inl ⟨by rfl, ?hi_1⟩) hHeld ?ri_1
        case hi_1 => ((intro U hSw; have y2 : U.cell? ⟨f.g7, 2, none⟩ = some (.slice AF c.flows.length cF) := (hSw.cell (p := ⟨f.g7, 2, none⟩) h77).trans HZ2.out; have y4 : U.cell? ⟨g11, 4, none⟩ = some (.slice JF mi.flows.length jF) := (hSw.cell (p := ⟨g11, 4, none⟩) h117).trans HZ4.out; go_simp); (try (with_reducible rfl)))
        try simp only [Act.put, List.setIfInBounds_toArray, List.set_cons_zero, List.set_cons_succ]
        refine ht_take 2 (v := ?vi_2) rfl (by kernel_rfl) (fun _ _ _ h => h) (Or.inl ⟨by rfl, ?hi_2⟩) hHeld ?ri_2
        case hi_2 => ((intro U hSw; have y2 : U.cell? ⟨f.g7, 2, none⟩ = some (.slice AF c.flows.length cF) := (hSw.cell (p := ⟨f.g7, 2, none⟩) h77).trans HZ2.out; have y4 : U.cell? ⟨g11, 4, none⟩ = some (.slice JF mi.flows.length jF) := (hSw.cell (p := ⟨g11, 4, none⟩) h117).trans HZ4.out; go_simp); (try (with_reducible rfl)))
        try simp only [Act.put, List.setIfInBounds_toArray, List.set_cons_zero, List.set_cons_succ]
        refine ht_take 4 (v := ?vi_3) rfl (by kernel_rfl) (fun _ _ _ h => h) (Or.inl ⟨by rfl, ?hi_3⟩) hHeld ?ri_3
        case hi_3 => ((intro U hSw; have y2 : U.cell? ⟨f.g7, 2, none⟩ = some (.slice AF c.flows.length cF) := (hSw.cell (p := ⟨f.g7, 2, none⟩) h77).trans HZ2.out; have y4 : U.cell? ⟨g11, 4, none⟩ = some (.slice JF mi.flows.length jF) := (hSw.cell (p := ⟨g11, 4, none⟩) h117).trans HZ4.out; go_simp); (try (with_reducible rfl)))
        try simp only [Act.put, List.setIfInBounds_toArray, List.set_cons_zero, List.set_cons_succ]
        refine ht_take 5 (v := ?vi_4) rfl (by kernel_rfl) (fun _ _ _ h => h) (Or.inl ⟨by rfl, ?hi_4⟩) hHeld ?ri_4
        case hi_4 => ((intro U hSw; have y2 : U.cell? ⟨f.g7, 2, none⟩ = some (.slice AF c.flows.length cF) := (hSw.cell (p := ⟨f.g7, 2, none⟩) h77).trans HZ2.out; have y4 : U.cell? ⟨g11, 4, none⟩ = some (.slice JF mi.flows.length jF) := (hSw.cell (p := ⟨g11, 4, none⟩) h117).trans HZ4.out; go_simp); (try (with_reducible rfl)))
        try simp only [Act.put, List.setIfInBounds_toArray, List.set_cons_zero, List.set_cons_succ]
        refine ht_one 0 rfl (by kernel_rfl) (fun K hK => ?_)
        go_simp
        obtain ⟨gE, hgE⟩ : ∃ g, g = V7.heap.size := ⟨_, rfl⟩
        obtain ⟨T1, hT⟩ : ∃ T, T = V7.drew.alloc (.cells #[] 40) := ⟨_, rfl⟩
        have d1 : Below V7.heap.size V7 T1 := by rw [hT]; exact d0.alloc d0.size _
        have e1 : T1.ownsRow V7.heap.size 40 4 (.slice (some ⟨gE, 0, none⟩) 0 0) 0 [] := by rw [hT, hgE]; exact World.ownsRow_lit (base := V7.heap.size) _ #[] 0 d0.size (by decide) rfl
        show K _ ((V7.drew).alloc (.cells #[] 40))
        rw [← hT, ← hgE]
        clear hT hgE
        refine hK.out _ _ (d1) (fun hHeld => ?_)
        clear hK K
        try simp only [Act.put, List.setIfInBounds_toArray, List.set_cons_zero, List.set_cons_succ]
        refine ht_one 3 rfl (by kernel_rfl) (fun K hK => ?_)
        refine step_append_any _ (by rfl) (.tmp 86) (.tmp 88) _ (by rfl) V7.heap.size 40 fi0 _ 4 64 Try.underlying24 hfi0 hfz0 hfz1 hfz2 rfl (by omega) (.slice (some ⟨gE, 0, none⟩) 0 0) 0 [] (by rfl) e1 _ AF c.flows.length cF xs1 (by rfl) (HXR1.out.below d1) HX11.out (by unfold maxLen; omega) (by omega) d1.size ?_
        intro v2 T2 e2 hgrow _
        have d2 : Below V7.heap.size V7 T2 := d1.grown hgrow d1.size (fun j hj => (e1.lt j hj).1)
        clear hgrow
        simp only [Nat.zero_add, List.nil_append] at e2
        obtain ⟨A3, c3, rfl, _, _⟩ := own_slice e2
        refine hK.out _ _ (d2) (fun hHeld => ?_)
        clear hK K
        try simp only [Act.put, List.setIfInBounds_toArray, List.set_cons_zero, List.set_cons_succ]
        refine ht_one 6 rfl (by kernel_rfl) (fun K hK => ?_)
        refine step_append_any _ (by rfl) (.tmp 89) (.tmp 91) _ (by rfl) V7.heap.size 40 fi0 _ 4 64 Try.underlying24 hfi0 hfz0 hfz1 hfz2 rfl (by omega) (.slice A3 c.flows.length c3) c.flows.length xs1 (by rfl) e2 _ JF mi.flows.length jF xs2 (by rfl) (HXR2.out.below d2) HX12.out (by unfold maxLen; omega) (by omega) d2.size ?_
        intro v3 T3 e3 hgrow _
        have d3 : Below V7.heap.size V7 T3 := d2.grown hgrow d2.size (fun j hj => (e2.lt j hj).1)
        clear hgrow
        obtain ⟨A4, c4, rfl, _, _⟩ := own_slice e3
        refine hK.out _ _ (d3) (fun hHeld => ?_)
        clear hK K
        try simp only [Act.put, List.setIfInBounds_toArray, List.set_cons_zero, List.set_cons_succ]
        refine ht_take 7 (v := ?vi_5) rfl (by kernel_rfl) (fun _ _ _ h => h) (Or.inl ⟨by rfl, ?hi_5⟩) hHeld ?ri_5
        case hi_5 => ((intro U hSw; have y2 : U.cell? ⟨f.g7, 2, none⟩ = some (.slice AF c.flows.length cF) := (hSw.cell (p := ⟨f.g7, 2, none⟩) h77).trans HZ2.out; have y4 : U.cell? ⟨g11, 4, none⟩ = some (.slice JF mi.flows.length jF) := (hSw.cell (p := ⟨g11, 4, none⟩) h117).trans HZ4.out; go_simp); (try (with_reducible rfl)))
        try simp only [Act.put, List.setIfInBounds_toArray, List.set_cons_zero, List.set_cons_succ]
        refine ht_done (by kernel_rfl) rfl ?_
        have hlen : (c.flows ++ mi.flows).length = c.flows.length + mi.flows.length := List.length_append
        have hnew : NS w f PP (c.flows ++ mi.flows) c.items c.seqs AP2 cP2 A4 c4 AI cI AS cS (T3.setCell ⟨f.g7, 2, none⟩ (.slice A4 (c.flows.length + mi.flows.length) c4)) := by
          have hg := set_grown (g := f.g7) (i := 2) d3 (.slice A4 (c.flows.length + mi.flows.length) c4)
          have hcl := HN7.out.cc.grownT 28 (.inl rfl) hg HN7.out.k7
          have hown2 := ownsRow_setCell_other (a := ⟨f.g7, 2, none⟩) e3 (fun e => by have := (e3.lt _ e).1; simp at this; omega) (.slice A4 (c.flows.length + mi.flows.length) c4)
          refine HN7.out.step hg ?_ ⟨hcl.parts, ?_, hcl.items, hcl.seqs⟩
          · rw [hlen]
            exact (HN7.out.k7.below d3 h77).set_ 2 _
          · refine rd_sl.2 ⟨A4, c4, xs1 ++ xs2, by rw [hlen], by rw [hlen]; exact own_mono hown2 (by omega), ?_⟩
            rw [List.flatMap_append]
            exact RdL.flat (flatL_append (flow_flat _) (flow_flat _)) ((RdL.flat (w1 := V7) (flow_flat _) HXL1.out).append HXL2.out)
        have HNEW := Lib.hid hnew
        have HGR := Lib.hid (set_grown (g := f.g7) (i := 2) d3 (.slice A4 (c.flows.length + mi.flows.length) c4))
        have z1 : T3.cell? ⟨f.g7, 2, none⟩ = some (.slice AF c.flows.length cF) := (d3.cell (p := ⟨f.g7, 2, none⟩) h77).trans HZ2.out
        have zf : T3.frozen? ⟨f.g7, 2, none⟩ = false := (HN7.out.k7.below d3 h77).frozen 2
        have hlk := Nat.lt_of_lt_of_le h77 d3.size
        clear hnew e3 hlen
        go_wp2_with fail
        go_meet
        case rel => exact ⟨A4, c4, HNEW.out, HGR.out⟩
      case rest =>
        obtain ⟨AF2, cF2, hN8, hg8⟩ := hcut
        obtain ⟨V8, rfl⟩ : ∃ V, V = wc := ⟨_, rfl⟩
        have hne9 : g9 ≠ f.g7 := blk_ne HK9b.out HN7.out.k7 (by decide)
        have hne12 : g12 ≠ f.g7 := blk_ne HK12.out HN7.out.k7 (by decide)
        have HK9c := Lib.hid (HK9b.out.grown hg8 (by simp [hne9]))
        have HK12c := Lib.hid (HK12.out.grown hg8 (by simp [hne12]))
        have HC8 := Lib.hid (HC7.out.grownT 28 (.inl rfl) hg8 HN7.out.k7)
        have HMAPS8 := Lib.hid (Rd.grown hg8 HN7.out.k7 _ _ (free_maps _ (by decide) _) HMAPS7.out)
        have HN8 := Lib.hid hN8
        obtain ⟨F2, hF2⟩ : ∃ l, l = c.flows ++ mi.flows := ⟨_, rfl⟩
        rw [← hF2] at HN8
        have HF2 := Lib.hid hF2
        obtain ⟨xs3, hr3, hxl3, h13⟩ := rd_reads HN8.out.cc.items
        have HXR3 := Lib.hid hr3
        have HXL3 := Lib.hid hxl3
        have HX13 := Lib.hid h13
        have h78 := HN8.out.k7.lt
        have h98 := HK9c.out.lt
        have h128 := HK12c.out.lt
        have HZ3 := Lib.hid (show V8.cell? ⟨f.g7, 3, none⟩ = some (.slice AI c.items.length cI) from HN8.out.k7.cell 3)
        obtain ⟨ii0, hii0, hiz0, hiz1, hiz2⟩ := info_parts Try.infoItemG
        have d0 := (Below.refl V8.heap.size V8).drew
        clear hN8 hg8 hF2 hr3 hxl3 h13 hne9 hne12
        go_upto_region 15 with fail
        go_cut [] (fun wx => ∃ AI2 cI2, NS w f PP F2 (c.items ++ [gcallF f.x PP q, gsubF mi]) c.seqs AP2 cP2 AF2 cF2 AI2 cI2 AS cS wx)
        case first =>
          refine wp_region_HT 9 (fun U => Below V8.heap.size V8 U) (by kernel_rfl) (by decide) (d0) (fun hHeld => ?_)
          refine ht_take 1 (v := ?vj_1) rfl (by kernel_rfl) (fun _ _ _ h => h) (Or.inl ⟨by rfl, ?hj_1⟩) hHeld ?rj_1
          case hj_1 => ((intro U hSw; have y2 : U.cell? ⟨f.g7, 3, none⟩ = some (.slice AI c.items.length cI) := (hSw.cell (p := ⟨f.g7, 3, none⟩) h78).trans HZ3.out; have ya0 : U.cell? ⟨g9, 0, none⟩ = some (.int .i64 8) := (hSw.cell (p := ⟨g9, 0, none⟩) h98).trans (HK9c.out.cell 0); have ya1 : U.cell? ⟨g9, 1, none⟩ = some (.string ⟨#[99, 97, 108, 108]⟩) := (hSw.cell (p := ⟨g9, 1, none⟩) h98).trans (HK9c.out.cell 1); have ya2 : U.cell? ⟨g9, 2, none⟩ = some (.string ⟨#[]⟩) := (hSw.cell (p := ⟨g9, 2, none⟩) h98).trans (HK9c.out.cell 2); have ya3 : U.cell? ⟨g9, 3, none⟩ = some (.slice none 0 0) := (hSw.cell (p := ⟨g9, 3, none⟩) h98).trans (HK9c.out.cell 3); have ya4 : U.cell? ⟨g9, 4, none⟩ = some (.slice none 0 0) := (hSw.cell (p := ⟨g9, 4, none⟩) h98).trans (HK9c.out.cell 4); have ya5 : U.cell? ⟨g9, 5, none⟩ = some (.bool false) := (hSw.cell (p := ⟨g9, 5, none⟩) h98).trans (HK9c.out.cell 5); have ya6 : U.cell? ⟨g9, 6, none⟩ = some (.string ⟨#[100]⟩) := (hSw.cell (p := ⟨g9, 6, none⟩) h98).trans (HK9c.out.cell 6); have ya7 : U.cell? ⟨g9, 7, none⟩ = some (.slice AM n cM) := (hSw.cell (p := ⟨g9, 7, none⟩) h98).trans (HK9c.out.cell 7); have ya8 : U.cell? ⟨g9, 8, none⟩ = some (.slice none 0 0) := (hSw.cell (p := ⟨g9, 8, none⟩) h98).trans (HK9c.out.cell 8); have ya9 : U.cell? ⟨g9, 9, none⟩ = some (.slice none 0 0) := (hSw.cell (p := ⟨g9, 9, none⟩) h98).trans (HK9c.out.cell 9); have yb0 : U.cell? ⟨g12, 0, none⟩ = some (.int .i64 7) := (hSw.cell (p := ⟨g12, 0, none⟩) h128).trans (HK12c.out.cell 0); have yb1 : U.cell? ⟨g12, 1, none⟩ = some (.string ⟨#[115, 117, 98]⟩) := (hSw.cell (p := ⟨g12, 1, none⟩) h128).trans (HK12c.out.cell 1); have yb2 : U.cell? ⟨g12, 2, none⟩ = some (.string ⟨#[]⟩) := (hSw.cell (p := ⟨g12, 2, none⟩) h128).trans (HK12c.out.cell 2); have yb3 : U.cell? ⟨g12, 3, none⟩ = some (.slice none 0 0) := (hSw.cell (p := ⟨g12, 3, none⟩) h128).trans (HK12c.out.cell 3); have yb4 : U.cell? ⟨g12, 4, none⟩ = some (.slice none 0 0) := (hSw.cell (p := ⟨g12, 4, none⟩) h128).trans (HK12c.out.cell 4); have yb5 : U.cell? ⟨g12, 5, none⟩ = some (.bool false) := (hSw.cell (p := ⟨g12, 5, none⟩) h128).trans (HK12c.out.cell 5); have yb6 : U.cell? ⟨g12, 6, none⟩ = some (.string ⟨#[]⟩) := (hSw.cell (p := ⟨g12, 6, none⟩) h128).trans (HK12c.out.cell 6); have yb7 : U.cell? ⟨g12, 7, none⟩ = some (.slice none 0 0) := (hSw.cell (p := ⟨g12, 7, none⟩) h128).trans (HK12c.out.cell 7); have yb8 : U.cell? ⟨g12, 8, none⟩ = some (.slice JI mi.items.length jI) := (hSw.cell (p := ⟨g12, 8, none⟩) h128).trans (HK12c.out.cell 8); have yb9 : U.cell? ⟨g12, 9, none⟩ = some (.slice JS mi.seqs.length jS) := (hSw.cell (p := ⟨g12, 9, none⟩) h128).trans (HK12c.out.cell 9); go_simp); (try (with_reducible rfl)))
          try simp only [Act.put, List.setIfInBounds_toArray, List.set_cons_zero, List.set_cons_succ]
          refine ht_take 2 (v := ?vj_2) rfl (by kernel_rfl) (fun _ _ _ h => h) (Or.inl ⟨by rfl, ?hj_2⟩) hHeld ?rj_2
          case hj_2 => ((intro U hSw; have y2 : U.cell? ⟨f.g7, 3, none⟩ = some (.slice AI c.items.length cI) := (hSw.cell (p := ⟨f.g7, 3, none⟩) h78).trans HZ3.out; have ya0 : U.cell? ⟨g9, 0, none⟩ = some (.int .i64 8) := (hSw.cell (p := ⟨g9, 0, none⟩) h98).trans (HK9c.out.cell 0); have ya1 : U.cell? ⟨g9, 1, none⟩ = some (.string ⟨#[99, 97, 108, 108]⟩) := (hSw.cell (p := ⟨g9, 1, none⟩) h98).trans (HK9c.out.cell 1); have ya2 : U.cell? ⟨g9, 2, none⟩ = some (.string ⟨#[]⟩) := (hSw.cell (p := ⟨g9, 2, none⟩) h98).trans (HK9c.out.cell 2); have ya3 : U.cell? ⟨g9, 3, none⟩ = some (.slice none 0 0) := (hSw.cell (p := ⟨g9, 3, none⟩) h98).trans (HK9c.out.cell 3); have ya4 : U.cell? ⟨g9, 4, none⟩ = some (.slice none 0 0) := (hSw.cell (p := ⟨g9, 4, none⟩) h98).trans (HK9c.out.cell 4); have ya5 : U.cell? ⟨g9, 5, none⟩ = some (.bool false) := (hSw.cell (p := ⟨g9, 5, none⟩) h98).trans (HK9c.out.cell 5); have ya6 : U.cell? ⟨g9, 6, none⟩ = some (.string ⟨#[100]⟩) := (hSw.cell (p := ⟨g9, 6, none⟩) h98).trans (HK9c.out.cell 6); have ya7 : U.cell? ⟨g9, 7, none⟩ = some (.slice AM n cM) := (hSw.cell (p := ⟨g9, 7, none⟩) h98).trans (HK9c.out.cell 7); have ya8 : U.cell? ⟨g9, 8, none⟩ = some (.slice none 0 0) := (hSw.cell (p := ⟨g9, 8, none⟩) h98).trans (HK9c.out.cell 8); have ya9 : U.cell? ⟨g9, 9, none⟩ = some (.slice none 0 0) := (hSw.cell (p := ⟨g9, 9, none⟩) h98).trans (HK9c.out.cell 9); have yb0 : U.cell? ⟨g12, 0, none⟩ = some (.int .i64 7) := (hSw.cell (p := ⟨g12, 0, none⟩) h128).trans (HK12c.out.cell 0); have yb1 : U.cell? ⟨g12, 1, none⟩ = some (.string ⟨#[115, 117, 98]⟩) := (hSw.cell (p := ⟨g12, 1, none⟩) h128).trans (HK12c.out.cell 1); have yb2 : U.cell? ⟨g12, 2, none⟩ = some (.string ⟨#[]⟩) := (hSw.cell (p := ⟨g12, 2, none⟩) h128).trans (HK12c.out.cell 2); have yb3 : U.cell? ⟨g12, 3, none⟩ = some (.slice none 0 0) := (hSw.cell (p := ⟨g12, 3, none⟩) h128).trans (HK12c.out.cell 3); have yb4 : U.cell? ⟨g12, 4, none⟩ = some (.slice none 0 0) := (hSw.cell (p := ⟨g12, 4, none⟩) h128).trans (HK12c.out.cell 4); have yb5 : U.cell? ⟨g12, 5, none⟩ = some (.bool false) := (hSw.cell (p := ⟨g12, 5, none⟩) h128).trans (HK12c.out.cell 5); have yb6 : U.cell? ⟨g12, 6, none⟩ = some (.string ⟨#[]⟩) := (hSw.cell (p := ⟨g12, 6, none⟩) h128).trans (HK12c.out.cell 6); have yb7 : U.cell? ⟨g12, 7, none⟩ = some (.slice none 0 0) := (hSw.cell (p := ⟨g12, 7, none⟩) h128).trans (HK12c.out.cell 7); have yb8 : U.cell? ⟨g12, 8, none⟩ = some (.slice JI mi.items.length jI) := (hSw.cell (p := ⟨g12, 8, none⟩) h128).trans (HK12c.out.cell 8); have yb9 : U.cell? ⟨g12, 9, none⟩ = some (.slice JS mi.seqs.length jS) := (hSw.cell (p := ⟨g12, 9, none⟩) h128).trans (HK12c.out.cell 9); go_simp); (try (with_reducible rfl)))
          try simp only [Act.put, List.setIfInBounds_toArray, List.set_cons_zero, List.set_cons_succ]
          refine ht_take 4 (v := ?vj_3) rfl (by kernel_rfl) (fun _ _ _ h => h) (Or.inl ⟨by rfl, ?hj_3⟩) hHeld ?rj_3
          case hj_3 => ((intro U hSw; have y2 : U.cell? ⟨f.g7, 3, none⟩ = some (.slice AI c.items.length cI) := (hSw.cell (p := ⟨f.g7, 3, none⟩) h78).trans HZ3.out; have ya0 : U.cell? ⟨g9, 0, none⟩ = some (.int .i64 8) := (hSw.cell (p := ⟨g9, 0, none⟩) h98).trans (HK9c.out.cell 0); have ya1 : U.cell? ⟨g9, 1, none⟩ = some (.string ⟨#[99, 97, 108, 108]⟩) := (hSw.cell (p := ⟨g9, 1, none⟩) h98).trans (HK9c.out.cell 1); have ya2 : U.cell? ⟨g9, 2, none⟩ = some (.string ⟨#[]⟩) := (hSw.cell (p := ⟨g9, 2, none⟩) h98).trans (HK9c.out.cell 2); have ya3 : U.cell? ⟨g9, 3, none⟩ = some (.slice none 0 0) := (hSw.cell (p := ⟨g9, 3, none⟩) h98).trans (HK9c.out.cell 3); have ya4 : U.cell? ⟨g9, 4, none⟩ = some (.slice none 0 0) := (hSw.cell (p := ⟨g9, 4, none⟩) h98).trans (HK9c.out.cell 4); have ya5 : U.cell? ⟨g9, 5, none⟩ = some (.bool false) := (hSw.cell (p := ⟨g9, 5, none⟩) h98).trans (HK9c.out.cell 5); have ya6 : U.cell? ⟨g9, 6, none⟩ = some (.string ⟨#[100]⟩) := (hSw.cell (p := ⟨g9, 6, none⟩) h98).trans (HK9c.out.cell 6); have ya7 : U.cell? ⟨g9, 7, none⟩ = some (.slice AM n cM) := (hSw.cell (p := ⟨g9, 7, none⟩) h98).trans (HK9c.out.cell 7); have ya8 : U.cell? ⟨g9, 8, none⟩ = some (.slice none 0 0) := (hSw.cell (p := ⟨g9, 8, none⟩) h98).trans (HK9c.out.cell 8); have ya9 : U.cell? ⟨g9, 9, none⟩ = some (.slice none 0 0) := (hSw.cell (p := ⟨g9, 9, none⟩) h98).trans (HK9c.out.cell 9); have yb0 : U.cell? ⟨g12, 0, none⟩ = some (.int .i64 7) := (hSw.cell (p := ⟨g12, 0, none⟩) h128).trans (HK12c.out.cell 0); have yb1 : U.cell? ⟨g12, 1, none⟩ = some (.string ⟨#[115, 117, 98]⟩) := (hSw.cell (p := ⟨g12, 1, none⟩) h128).trans (HK12c.out.cell 1); have yb2 : U.cell? ⟨g12, 2, none⟩ = some (.string ⟨#[]⟩) := (hSw.cell (p := ⟨g12, 2, none⟩) h128).trans (HK12c.out.cell 2); have yb3 : U.cell? ⟨g12, 3, none⟩ = some (.slice none 0 0) := (hSw.cell (p := ⟨g12, 3, none⟩) h128).trans (HK12c.out.cell 3); have yb4 : U.cell? ⟨g12, 4, none⟩ = some (.slice none 0 0) := (hSw.cell (p := ⟨g12, 4, none⟩) h128).trans (HK12c.out.cell 4); have yb5 : U.cell? ⟨g12, 5, none⟩ = some (.bool false) := (hSw.cell (p := ⟨g12, 5, none⟩) h128).trans (HK12c.out.cell 5); have yb6 : U.cell? ⟨g12, 6, none⟩ = some (.string ⟨#[]⟩) := (hSw.cell (p := ⟨g12, 6, none⟩) h128).trans (HK12c.out.cell 6); have yb7 : U.cell? ⟨g12, 7, none⟩ = some (.slice none 0 0) := (hSw.cell (p := ⟨g12, 7, none⟩) h128).trans (HK12c.out.cell 7); have yb8 : U.cell? ⟨g12, 8, none⟩ = some (.slice JI mi.items.length jI) := (hSw.cell (p := ⟨g12, 8, none⟩) h128).trans (HK12c.out.cell 8); have yb9 : U.cell? ⟨g12, 9, none⟩ = some (.slice JS mi.seqs.length jS) := (hSw.cell (p := ⟨g12, 9, none⟩) h128).trans (HK12c.out.cell 9); go_simp); (try (with_reducible rfl)))
          try simp only [Act.put, List.setIfInBounds_toArray, List.set_cons_zero, List.set_cons_succ]
          refine ht_take 5 (v := ?vj_4) rfl (by kernel_rfl) (fun _ _ _ h => h) (Or.inl ⟨by rfl, ?hj_4⟩) hHeld ?rj_4
          case hj_4 => ((intro U hSw; have y2 : U.cell? ⟨f.g7, 3, none⟩ = some (.slice AI c.items.length cI) := (hSw.cell (p := ⟨f.g7, 3, none⟩) h78).trans HZ3.out; have ya0 : U.cell? ⟨g9, 0, none⟩ = some (.int .i64 8) := (hSw.cell (p := ⟨g9, 0, none⟩) h98).trans (HK9c.out.cell 0); have ya1 : U.cell? ⟨g9, 1, none⟩ = some (.string ⟨#[99, 97, 108, 108]⟩) := (hSw.cell (p := ⟨g9, 1, none⟩) h98).trans (HK9c.out.cell 1); have ya2 : U.cell? ⟨g9, 2, none⟩ = some (.string ⟨#[]⟩) := (hSw.cell (p := ⟨g9, 2, none⟩) h98).trans (HK9c.out.cell 2); have ya3 : U.cell? ⟨g9, 3, none⟩ = some (.slice none 0 0) := (hSw.cell (p := ⟨g9, 3, none⟩) h98).trans (HK9c.out.cell 3); have ya4 : U.cell? ⟨g9, 4, none⟩ = some (.slice none 0 0) := (hSw.cell (p := ⟨g9, 4, none⟩) h98).trans (HK9c.out.cell 4); have ya5 : U.cell? ⟨g9, 5, none⟩ = some (.bool false) := (hSw.cell (p := ⟨g9, 5, none⟩) h98).trans (HK9c.out.cell 5); have ya6 : U.cell? ⟨g9, 6, none⟩ = some (.string ⟨#[100]⟩) := (hSw.cell (p := ⟨g9, 6, none⟩) h98).trans (HK9c.out.cell 6); have ya7 : U.cell? ⟨g9, 7, none⟩ = some (.slice AM n cM) := (hSw.cell (p := ⟨g9, 7, none⟩) h98).trans (HK9c.out.cell 7); have ya8 : U.cell? ⟨g9, 8, none⟩ = some (.slice none 0 0) := (hSw.cell (p := ⟨g9, 8, none⟩) h98).trans (HK9c.out.cell 8); have ya9 : U.cell? ⟨g9, 9, none⟩ = some (.slice none 0 0) := (hSw.cell (p := ⟨g9, 9, none⟩) h98).trans (HK9c.out.cell 9); have yb0 : U.cell? ⟨g12, 0, none⟩ = some (.int .i64 7) := (hSw.cell (p := ⟨g12, 0, none⟩) h128).trans (HK12c.out.cell 0); have yb1 : U.cell? ⟨g12, 1, none⟩ = some (.string ⟨#[115, 117, 98]⟩) := (hSw.cell (p := ⟨g12, 1, none⟩) h128).trans (HK12c.out.cell 1); have yb2 : U.cell? ⟨g12, 2, none⟩ = some (.string ⟨#[]⟩) := (hSw.cell (p := ⟨g12, 2, none⟩) h128).trans (HK12c.out.cell 2); have yb3 : U.cell? ⟨g12, 3, none⟩ = some (.slice none 0 0) := (hSw.cell (p := ⟨g12, 3, none⟩) h128).trans (HK12c.out.cell 3); have yb4 : U.cell? ⟨g12, 4, none⟩ = some (.slice none 0 0) := (hSw.cell (p := ⟨g12, 4, none⟩) h128).trans (HK12c.out.cell 4); have yb5 : U.cell? ⟨g12, 5, none⟩ = some (.bool false) := (hSw.cell (p := ⟨g12, 5, none⟩) h128).trans (HK12c.out.cell 5); have yb6 : U.cell? ⟨g12, 6, none⟩ = some (.string ⟨#[]⟩) := (hSw.cell (p := ⟨g12, 6, none⟩) h128).trans (HK12c.out.cell 6); have yb7 : U.cell? ⟨g12, 7, none⟩ = some (.slice none 0 0) := (hSw.cell (p := ⟨g12, 7, none⟩) h128).trans (HK12c.out.cell 7); have yb8 : U.cell? ⟨g12, 8, none⟩ = some (.slice JI mi.items.length jI) := (hSw.cell (p := ⟨g12, 8, none⟩) h128).trans (HK12c.out.cell 8); have yb9 : U.cell? ⟨g12, 9, none⟩ = some (.slice JS mi.seqs.length jS) := (hSw.cell (p := ⟨g12, 9, none⟩) h128).trans (HK12c.out.cell 9); go_simp); (try (with_reducible rfl)))
          try simp only [Act.put, List.setIfInBounds_toArray, List.set_cons_zero, List.set_cons_succ]
          refine wpHT_all [0, 6] (by kernel_rfl) ?_
          refine ht_cons (i := 0) rfl (fun K hK => ?_) (ht_cons (i := 6) rfl (fun K hK => ?_) (allHT.nil))
          · go_simp
            obtain ⟨gE, hgE⟩ : ∃ g, g = V8.heap.size := ⟨_, rfl⟩
            obtain ⟨T1, hT⟩ : ∃ T, T = (V8.drew).alloc (.cells #[] 33) := ⟨_, rfl⟩
            have d1 : Below V8.heap.size V8 T1 := by rw [hT]; exact d0.alloc d0.size (.cells #[] 33)
            have hE1 : T1.ownsRow V8.heap.size 33 10 (.slice (some ⟨gE, 0, none⟩) 0 0) 0 [] := by rw [hT, hgE]; exact World.ownsRow_lit (base := V8.heap.size) _ #[] 0 d0.size (by decide) rfl
            have nE0 : V8.heap.size ≤ gE := by rw [hgE]; exact d0.size
            show K _ ((V8.drew).alloc (.cells #[] 33))
            rw [← hT, ← hgE]
            clear hT hgE
            refine hK.out _ _ (d1) (fun hHeld => ?_)
            clear hK K
            try simp only [Act.put, List.setIfInBounds_toArray, List.set_cons_zero, List.set_cons_succ]
            refine wpHT_all [3, 6] (by kernel_rfl) ?_
            refine ht_cons (i := 3) rfl (fun K hK => ?_) (ht_cons (i := 6) rfl (fun K hK => ?_) (allHT.nil))
            · refine step_append_any _ (by rfl) (.tmp 94) (.tmp 96) _ (by rfl) V8.heap.size 33 ii0 _ 10 184 Try.underlying25 hii0 hiz0 hiz1 hiz2 rfl (by omega) (.slice (some ⟨gE, 0, none⟩) 0 0) 0 [] (by rfl) hE1 _ AI c.items.length cI xs3 (by rfl) (HXR3.out.below d1) HX13.out (by unfold maxLen; omega) (by omega) d1.size ?_
              intro v3 T2 hA2 hgrow _
              simp only [Nat.zero_add, List.nil_append] at hA2
              obtain ⟨A3, c3, rfl, _, _⟩ := own_slice hA2
              have d2 : Below V8.heap.size V8 T2 := d1.grown hgrow d1.size (fun j hj => by simp [Value.ownBlock] at hj; omega)
              clear hgrow
              refine hK.out _ _ (d2) (fun hHeld => ?_)
              clear hK K
              try simp only [Act.put, List.setIfInBounds_toArray, List.set_cons_zero, List.set_cons_succ]
              refine ht_one 6 rfl (by kernel_rfl) (fun K hK => ?_)
              go_simp
              obtain ⟨gG, hgG⟩ : ∃ g, g = T2.heap.size := ⟨_, rfl⟩
              obtain ⟨T3, hT⟩ : ∃ T, T = (T2).alloc (.cells #[.int .i64 8, .string ⟨#[99, 97, 108, 108]⟩, .string ⟨#[]⟩, .slice none 0 0, .slice none 0 0, .bool false, .string ⟨#[100]⟩, .slice AM n cM, .slice none 0 0, .slice none 0 0, .int .i64 7, .string ⟨#[115, 117, 98]⟩, .string ⟨#[]⟩, .slice none 0 0, .slice none 0 0, .bool false, .string ⟨#[]⟩, .slice none 0 0, .slice JI mi.items.length jI, .slice JS mi.seqs.length jS] 33) := ⟨_, rfl⟩
              have d3 : Below V8.heap.size V8 T3 := by rw [hT]; exact d2.alloc d2.size (.cells #[.int .i64 8, .string ⟨#[99, 97, 108, 108]⟩, .string ⟨#[]⟩, .slice none 0 0, .slice none 0 0, .bool false, .string ⟨#[100]⟩, .slice AM n cM, .slice none 0 0, .slice none 0 0, .int .i64 7, .string ⟨#[115, 117, 98]⟩, .string ⟨#[]⟩, .slice none 0 0, .slice none 0 0, .bool false, .string ⟨#[]⟩, .slice none 0 0, .slice JI mi.items.length jI, .slice JS mi.seqs.length jS] 33)
              have kG3 : Blk T3 gG 33 #[.int .i64 8, .string ⟨#[99, 97, 108, 108]⟩, .string ⟨#[]⟩, .slice none 0 0, .slice none 0 0, .bool false, .string ⟨#[100]⟩, .slice AM n cM, .slice none 0 0, .slice none 0 0, .int .i64 7, .string ⟨#[115, 117, 98]⟩, .string ⟨#[]⟩, .slice none 0 0, .slice none 0 0, .bool false, .string ⟨#[]⟩, .slice none 0 0, .slice JI mi.items.length jI, .slice JS mi.seqs.length jS] := by rw [hT, hgG]; exact Blk.new _ _ _
              have hA3 : T3.ownsRow V8.heap.size 33 10 (.slice A3 c.items.length c3) c.items.length xs3 := by rw [hT]; exact hA2.alloc _
              have nG0 : V8.heap.size ≤ gG := by rw [hgG]; exact d2.size
              show K _ ((T2).alloc (.cells #[.int .i64 8, .string ⟨#[99, 97, 108, 108]⟩, .string ⟨#[]⟩, .slice none 0 0, .slice none 0 0, .bool false, .string ⟨#[100]⟩, .slice AM n cM, .slice none 0 0, .slice none 0 0, .int .i64 7, .string ⟨#[115, 117, 98]⟩, .string ⟨#[]⟩, .slice none 0 0, .slice none 0 0, .bool false, .string ⟨#[]⟩, .slice none 0 0, .slice JI mi.items.length jI, .slice JS mi.seqs.length jS] 33))
              rw [← hT, ← hgG]
              clear hT hgG
              refine hK.out _ _ (d3) (fun hHeld => ?_)
              clear hK K
              try simp only [Act.put, List.setIfInBounds_toArray, List.set_cons_zero, List.set_cons_succ]
              refine ht_one 7 rfl (by kernel_rfl) (fun K hK => ?_)
              refine step_append_lies _ (by rfl) (.tmp 97) (.tmp 100) _ (by rfl) V8.heap.size 33 ii0 _ 10 184 Try.underlying25 hii0 hiz0 hiz1 hiz2 rfl (by omega) (.slice A3 c.items.length c3) c.items.length xs3 (by rfl) hA3 ⟨gG, 0, none⟩ 2 2 [.int .i64 8, .string ⟨#[99, 97, 108, 108]⟩, .string ⟨#[]⟩, .slice none 0 0, .slice none 0 0, .bool false, .string ⟨#[100]⟩, .slice AM n cM, .slice none 0 0, .slice none 0 0, .int .i64 7, .string ⟨#[115, 117, 98]⟩, .string ⟨#[]⟩, .slice none 0 0, .slice none 0 0, .bool false, .string ⟨#[]⟩, .slice none 0 0, .slice JI mi.items.length jI, .slice JS mi.seqs.length jS] (by rfl) (by rfl) (World.news_of_block (cs := #[.int .i64 8, .string ⟨#[99, 97, 108, 108]⟩, .string ⟨#[]⟩, .slice none 0 0, .slice none 0 0, .bool false, .string ⟨#[100]⟩, .slice AM n cM, .slice none 0 0, .slice none 0 0, .int .i64 7, .string ⟨#[115, 117, 98]⟩, .string ⟨#[]⟩, .slice none 0 0, .slice none 0 0, .bool false, .string ⟨#[]⟩, .slice none 0 0, .slice JI mi.items.length jI, .slice JS mi.seqs.length jS]) (t := 33) (fr := (0, 0)) kG3) (by simp [Value.oneCell']) (by omega) (by unfold maxLen; omega) (by omega) d3.size _ rfl ?_
              intro gX capX T4 hownX hgrowX _ _
              have d4 : Below V8.heap.size V8 T4 := d3.grown hgrowX d3.size (fun j hj => (hA3.lt j hj).1)
              clear hgrowX
              refine hK.out _ _ (d4) (fun hHeld => ?_)
              clear hK K
              try simp only [Act.put, List.setIfInBounds_toArray, List.set_cons_zero, List.set_cons_succ]
              refine ht_take 8 (v := ?vj_5) rfl (by kernel_rfl) (fun _ _ _ h => h) (Or.inl ⟨by rfl, ?hj_5⟩) hHeld ?rj_5
              case hj_5 => ((intro U hSw; have y2 : U.cell? ⟨f.g7, 3, none⟩ = some (.slice AI c.items.length cI) := (hSw.cell (p := ⟨f.g7, 3, none⟩) h78).trans HZ3.out; have ya0 : U.cell? ⟨g9, 0, none⟩ = some (.int .i64 8) := (hSw.cell (p := ⟨g9, 0, none⟩) h98).trans (HK9c.out.cell 0); have ya1 : U.cell? ⟨g9, 1, none⟩ = some (.string ⟨#[99, 97, 108, 108]⟩) := (hSw.cell (p := ⟨g9, 1, none⟩) h98).trans (HK9c.out.cell 1); have ya2 : U.cell? ⟨g9, 2, none⟩ = some (.string ⟨#[]⟩) := (hSw.cell (p := ⟨g9, 2, none⟩) h98).trans (HK9c.out.cell 2); have ya3 : U.cell? ⟨g9, 3, none⟩ = some (.slice none 0 0) := (hSw.cell (p := ⟨g9, 3, none⟩) h98).trans (HK9c.out.cell 3); have ya4 : U.cell? ⟨g9, 4, none⟩ = some (.slice none 0 0) := (hSw.cell (p := ⟨g9, 4, none⟩) h98).trans (HK9c.out.cell 4); have ya5 : U.cell? ⟨g9, 5, none⟩ = some (.bool false) := (hSw.cell (p := ⟨g9, 5, none⟩) h98).trans (HK9c.out.cell 5); have ya6 : U.cell? ⟨g9, 6, none⟩ = some (.string ⟨#[100]⟩) := (hSw.cell (p := ⟨g9, 6, none⟩) h98).trans (HK9c.out.cell 6); have ya7 : U.cell? ⟨g9, 7, none⟩ = some (.slice AM n cM) := (hSw.cell (p := ⟨g9, 7, none⟩) h98).trans (HK9c.out.cell 7); have ya8 : U.cell? ⟨g9, 8, none⟩ = some (.slice none 0 0) := (hSw.cell (p := ⟨g9, 8, none⟩) h98).trans (HK9c.out.cell 8); have ya9 : U.cell? ⟨g9, 9, none⟩ = some (.slice none 0 0) := (hSw.cell (p := ⟨g9, 9, none⟩) h98).trans (HK9c.out.cell 9); have yb0 : U.cell? ⟨g12, 0, none⟩ = some (.int .i64 7) := (hSw.cell (p := ⟨g12, 0, none⟩) h128).trans (HK12c.out.cell 0); have yb1 : U.cell? ⟨g12, 1, none⟩ = some (.string ⟨#[115, 117, 98]⟩) := (hSw.cell (p := ⟨g12, 1, none⟩) h128).trans (HK12c.out.cell 1); have yb2 : U.cell? ⟨g12, 2, none⟩ = some (.string ⟨#[]⟩) := (hSw.cell (p := ⟨g12, 2, none⟩) h128).trans (HK12c.out.cell 2); have yb3 : U.cell? ⟨g12, 3, none⟩ = some (.slice none 0 0) := (hSw.cell (p := ⟨g12, 3, none⟩) h128).trans (HK12c.out.cell 3); have yb4 : U.cell? ⟨g12, 4, none⟩ = some (.slice none 0 0) := (hSw.cell (p := ⟨g12, 4, none⟩) h128).trans (HK12c.out.cell 4); have yb5 : U.cell? ⟨g12, 5, none⟩ = some (.bool false) := (hSw.cell (p := ⟨g12, 5, none⟩) h128).trans (HK12c.out.cell 5); have yb6 : U.cell? ⟨g12, 6, none⟩ = some (.string ⟨#[]⟩) := (hSw.cell (p := ⟨g12, 6, none⟩) h128).trans (HK12c.out.cell 6); have yb7 : U.cell? ⟨g12, 7, none⟩ = some (.slice none 0 0) := (hSw.cell (p := ⟨g12, 7, none⟩) h128).trans (HK12c.out.cell 7); have yb8 : U.cell? ⟨g12, 8, none⟩ = some (.slice JI mi.items.length jI) := (hSw.cell (p := ⟨g12, 8, none⟩) h128).trans (HK12c.out.cell 8); have yb9 : U.cell? ⟨g12, 9, none⟩ = some (.slice JS mi.seqs.length jS) := (hSw.cell (p := ⟨g12, 9, none⟩) h128).trans (HK12c.out.cell 9); go_simp); (try (with_reducible rfl)))
              try simp only [Act.put, List.setIfInBounds_toArray, List.set_cons_zero, List.set_cons_succ]
              refine ht_done (by kernel_rfl) rfl ?_
              have hlen : (c.items ++ [gcallF f.x PP q, gsubF mi]).length = c.items.length + 2 := by rw [List.length_append]; rfl
              have hnew : NS w f PP F2 (c.items ++ [gcallF f.x PP q, gsubF mi]) c.seqs AP2 cP2 AF2 cF2 (some ⟨gX, 0, none⟩) capX AS cS (T4.setCell ⟨f.g7, 3, none⟩ (.slice (some ⟨gX, 0, none⟩) (c.items.length + 2) capX)) := by
                have hg := set_grown (g := f.g7) (i := 3) d4 (.slice (some ⟨gX, 0, none⟩) (c.items.length + 2) capX)
                have hcl := HN8.out.cc.grownT 28 (.inl rfl) hg HN8.out.k7
                have hown2 := ownsRow_setCell_other (a := ⟨f.g7, 3, none⟩) hownX (by have := (hownX.lt gX rfl).1; simp [Value.ownBlock]; omega) (.slice (some ⟨gX, 0, none⟩) (c.items.length + 2) capX)
                have hfr : freeL 28 (c.items.flatMap itemC) := by rw [← itemsC_flat]; exact free_itemL _ (by decide) (by decide) (by decide) (by decide) _
                have hx3 := RdL.grown hg HN8.out.k7 _ _ hfr HXL3.out
                have hmp := Rd.grown hg HN8.out.k7 _ _ (free_maps _ (by decide) _) HMAPS8.out
                have hc8 := HC8.out.grownT 28 (.inl rfl) hg HN8.out.k7
                have hcall : gcallF f.x PP q = ⟨8, ⟨#[99, 97, 108, 108]⟩, ⟨#[]⟩, [], [], false, ⟨#[100]⟩, mps, [], []⟩ := by rw [HMPS.out, HN.out, HPK.out]; rfl
                refine HN8.out.step hg ?_ ⟨hcl.parts, hcl.flows, ?_, hcl.seqs⟩
                · rw [hlen]
                  exact (HN8.out.k7.below d4 h78).set_ 3 _
                · refine rd_sl.2 ⟨some ⟨gX, 0, none⟩, capX, xs3 ++ [.int .i64 8, .string ⟨#[99, 97, 108, 108]⟩, .string ⟨#[]⟩, .slice none 0 0, .slice none 0 0, .bool false, .string ⟨#[100]⟩, .slice AM n cM, .slice none 0 0, .slice none 0 0, .int .i64 7, .string ⟨#[115, 117, 98]⟩, .string ⟨#[]⟩, .slice none 0 0, .slice none 0 0, .bool false, .string ⟨#[]⟩, .slice none 0 0, .slice JI mi.items.length jI, .slice JS mi.seqs.length jS], by rw [hlen], by rw [hlen]; exact own_mono hown2 (by omega), ?_⟩
                  rw [List.flatMap_append]
                  refine hx3.append ?_
                  rw [List.flatMap_cons, List.flatMap_cons, List.flatMap_nil, List.append_nil, hcall]
                  exact RdL.append (rd_itemC.2 ⟨_, _, _, _, _, rfl, rd_nilG, rd_nilG, hmp, rd_nilG, rd_nilG⟩) (rd_itemC.2 ⟨_, _, _, _, _, rfl, rd_nilG, rd_nilG, rd_nilG, hc8.items, hc8.seqs⟩)
              have HNEW := Lib.hid hnew
              have z1 : T4.cell? ⟨f.g7, 3, none⟩ = some (.slice AI c.items.length cI) := (d4.cell (p := ⟨f.g7, 3, none⟩) h78).trans HZ3.out
              have zf : T4.frozen? ⟨f.g7, 3, none⟩ = false := (HN8.out.k7.below d4 h78).frozen 3
              have hlk := Nat.lt_of_lt_of_le h78 d4.size
              clear hnew hownX hlen
              go_wp2_with fail
              go_meet
              case rel => exact ⟨some ⟨gX, 0, none⟩, capX, HNEW.out⟩
            · go_simp
              obtain ⟨gG, hgG⟩ : ∃ g, g = T1.heap.size := ⟨_, rfl⟩
              obtain ⟨T2, hT⟩ : ∃ T, T = (T1).alloc (.cells #[.int .i64 8, .string ⟨#[99, 97, 108, 108]⟩, .string ⟨#[]⟩, .slice none 0 0, .slice none 0 0, .bool false, .string ⟨#[100]⟩, .slice AM n cM, .slice none 0 0, .slice none 0 0, .int .i64 7, .string ⟨#[115, 117, 98]⟩, .string ⟨#[]⟩, .slice none 0 0, .slice none 0 0, .bool false, .string ⟨#[]⟩, .slice none 0 0, .slice JI mi.items.length jI, .slice JS mi.seqs.length jS] 33) := ⟨_, rfl⟩
              have d2 : Below V8.heap.size V8 T2 := by rw [hT]; exact d1.alloc d1.size (.cells #[.int .i64 8, .string ⟨#[99, 97, 108, 108]⟩, .string ⟨#[]⟩, .slice none 0 0, .slice none 0 0, .bool false, .string ⟨#[100]⟩, .slice AM n cM, .slice none 0 0, .slice none 0 0, .int .i64 7, .string ⟨#[115, 117, 98]⟩, .string ⟨#[]⟩, .slice none 0 0, .slice none 0 0, .bool false, .string ⟨#[]⟩, .slice none 0 0, .slice JI mi.items.length jI, .slice JS mi.seqs.length jS] 33)
              have kG2 : Blk T2 gG 33 #[.int .i64 8, .string ⟨#[99, 97, 108, 108]⟩, .string ⟨#[]⟩, .slice none 0 0, .slice none 0 0, .bool false, .string ⟨#[100]⟩, .slice AM n cM, .slice none 0 0, .slice none 0 0, .int .i64 7, .string ⟨#[115, 117, 98]⟩, .string ⟨#[]⟩, .slice none 0 0, .slice none 0 0, .bool false, .string ⟨#[]⟩, .slice none 0 0, .slice JI mi.items.length jI, .slice JS mi.seqs.length jS] := by rw [hT, hgG]; exact Blk.new _ _ _
              have hE2 : T2.ownsRow V8.heap.size 33 10 (.slice (some ⟨gE, 0, none⟩) 0 0) 0 [] := by rw [hT]; exact hE1.alloc _
              have nG0 : V8.heap.size ≤ gG := by rw [hgG]; exact d1.size
              have nEG : gE < gG := by rw [hgG]; exact (hE1.lt gE rfl).2
              show K _ ((T1).alloc (.cells #[.int .i64 8, .string ⟨#[99, 97, 108, 108]⟩, .string ⟨#[]⟩, .slice none 0 0, .slice none 0 0, .bool false, .string ⟨#[100]⟩, .slice AM n cM, .slice none 0 0, .slice none 0 0, .int .i64 7, .string ⟨#[115, 117, 98]⟩, .string ⟨#[]⟩, .slice none 0 0, .slice none 0 0, .bool false, .string ⟨#[]⟩, .slice none 0 0, .slice JI mi.items.length jI, .slice JS mi.seqs.length jS] 33))
              rw [← hT, ← hgG]
              clear hT hgG
              refine hK.out _ _ (d2) (fun hHeld => ?_)
              clear hK K
              try simp only [Act.put, List.setIfInBounds_toArray, List.set_cons_zero, List.set_cons_succ]
              refine ht_one 3 rfl (by kernel_rfl) (fun K hK => ?_)
              refine step_append_any _ (by rfl) (.tmp 94) (.tmp 96) _ (by rfl) V8.heap.size 33 ii0 _ 10 184 Try.underlying25 hii0 hiz0 hiz1 hiz2 rfl (by omega) (.slice (some ⟨gE, 0, none⟩) 0 0) 0 [] (by rfl) hE2 _ AI c.items.length cI xs3 (by rfl) (HXR3.out.below d2) HX13.out (by unfold maxLen; omega) (by omega) d2.size ?_
              intro v3 T3 hA3 hgrow _
              simp only [Nat.zero_add, List.nil_append] at hA3
              obtain ⟨A3, c3, rfl, _, _⟩ := own_slice hA3
              have d3 : Below V8.heap.size V8 T3 := d2.grown hgrow d2.size (fun j hj => by simp [Value.ownBlock] at hj; omega)
              have kG3 : Blk T3 gG 33 #[.int .i64 8, .string ⟨#[99, 97, 108, 108]⟩, .string ⟨#[]⟩, .slice none 0 0, .slice none 0 0, .bool false, .string ⟨#[100]⟩, .slice AM n cM, .slice none 0 0, .slice none 0 0, .int .i64 7, .string ⟨#[115, 117, 98]⟩, .string ⟨#[]⟩, .slice none 0 0, .slice none 0 0, .bool false, .string ⟨#[]⟩, .slice none 0 0, .slice JI mi.items.length jI, .slice JS mi.seqs.length jS] := kG2.grown hgrow (by simp [Value.ownBlock]; omega)
              clear hgrow
              refine hK.out _ _ (d3) (fun hHeld => ?_)
              clear hK K
              try simp only [Act.put, List.setIfInBounds_toArray, List.set_cons_zero, List.set_cons_succ]
              refine ht_one 7 rfl (by kernel_rfl) (fun K hK => ?_)
              refine step_append_lies _ (by rfl) (.tmp 97) (.tmp 100) _ (by rfl) V8.heap.size 33 ii0 _ 10 184 Try.underlying25 hii0 hiz0 hiz1 hiz2 rfl (by omega) (.slice A3 c.items.length c3) c.items.length xs3 (by rfl) hA3 ⟨gG, 0, none⟩ 2 2 [.int .i64 8, .string ⟨#[99, 97, 108, 108]⟩, .string ⟨#[]⟩, .slice none 0 0, .slice none 0 0, .bool false, .string ⟨#[100]⟩, .slice AM n cM, .slice none 0 0, .slice none 0 0, .int .i64 7, .string ⟨#[115, 117, 98]⟩, .string ⟨#[]⟩, .slice none 0 0, .slice none 0 0, .bool false, .string ⟨#[]⟩, .slice none 0 0, .slice JI mi.items.length jI, .slice JS mi.seqs.length jS] (by rfl) (by rfl) (World.news_of_block (cs := #[.int .i64 8, .string ⟨#[99, 97, 108, 108]⟩, .string ⟨#[]⟩, .slice none 0 0, .slice none 0 0, .bool false, .string ⟨#[100]⟩, .slice AM n cM, .slice none 0 0, .slice none 0 0, .int .i64 7, .string ⟨#[115, 117, 98]⟩, .string ⟨#[]⟩, .slice none 0 0, .slice none 0 0, .bool false, .string ⟨#[]⟩, .slice none 0 0, .slice JI mi.items.length jI, .slice JS mi.seqs.length jS]) (t := 33) (fr := (0, 0)) kG3) (by simp [Value.oneCell']) (by omega) (by unfold maxLen; omega) (by omega) d3.size _ rfl ?_
              intro gX capX T4 hownX hgrowX _ _
              have d4 : Below V8.heap.size V8 T4 := d3.grown hgrowX d3.size (fun j hj => (hA3.lt j hj).1)
              clear hgrowX
              refine hK.out _ _ (d4) (fun hHeld => ?_)
              clear hK K
              try simp only [Act.put, List.setIfInBounds_toArray, List.set_cons_zero, List.set_cons_succ]
              refine ht_take 8 (v := ?vj_6) rfl (by kernel_rfl) (fun _ _ _ h => h) (Or.inl ⟨by rfl, ?hj_6⟩) hHeld ?rj_6
              case hj_6 => ((intro U hSw; have y2 : U.cell? ⟨f.g7, 3, none⟩ = some (.slice AI c.items.length cI) := (hSw.cell (p := ⟨f.g7, 3, none⟩) h78).trans HZ3.out; have ya0 : U.cell? ⟨g9, 0, none⟩ = some (.int .i64 8) := (hSw.cell (p := ⟨g9, 0, none⟩) h98).trans (HK9c.out.cell 0); have ya1 : U.cell? ⟨g9, 1, none⟩ = some (.string ⟨#[99, 97, 108, 108]⟩) := (hSw.cell (p := ⟨g9, 1, none⟩) h98).trans (HK9c.out.cell 1); have ya2 : U.cell? ⟨g9, 2, none⟩ = some (.string ⟨#[]⟩) := (hSw.cell (p := ⟨g9, 2, none⟩) h98).trans (HK9c.out.cell 2); have ya3 : U.cell? ⟨g9, 3, none⟩ = some (.slice none 0 0) := (hSw.cell (p := ⟨g9, 3, none⟩) h98).trans (HK9c.out.cell 3); have ya4 : U.cell? ⟨g9, 4, none⟩ = some (.slice none 0 0) := (hSw.cell (p := ⟨g9, 4, none⟩) h98).trans (HK9c.out.cell 4); have ya5 : U.cell? ⟨g9, 5, none⟩ = some (.bool false) := (hSw.cell (p := ⟨g9, 5, none⟩) h98).trans (HK9c.out.cell 5); have ya6 : U.cell? ⟨g9, 6, none⟩ = some (.string ⟨#[100]⟩) := (hSw.cell (p := ⟨g9, 6, none⟩) h98).trans (HK9c.out.cell 6); have ya7 : U.cell? ⟨g9, 7, none⟩ = some (.slice AM n cM) := (hSw.cell (p := ⟨g9, 7, none⟩) h98).trans (HK9c.out.cell 7); have ya8 : U.cell? ⟨g9, 8, none⟩ = some (.slice none 0 0) := (hSw.cell (p := ⟨g9, 8, none⟩) h98).trans (HK9c.out.cell 8); have ya9 : U.cell? ⟨g9, 9, none⟩ = some (.slice none 0 0) := (hSw.cell (p := ⟨g9, 9, none⟩) h98).trans (HK9c.out.cell 9); have yb0 : U.cell? ⟨g12, 0, none⟩ = some (.int .i64 7) := (hSw.cell (p := ⟨g12, 0, none⟩) h128).trans (HK12c.out.cell 0); have yb1 : U.cell? ⟨g12, 1, none⟩ = some (.string ⟨#[115, 117, 98]⟩) := (hSw.cell (p := ⟨g12, 1, none⟩) h128).trans (HK12c.out.cell 1); have yb2 : U.cell? ⟨g12, 2, none⟩ = some (.string ⟨#[]⟩) := (hSw.cell (p := ⟨g12, 2, none⟩) h128).trans (HK12c.out.cell 2); have yb3 : U.cell? ⟨g12, 3, none⟩ = some (.slice none 0 0) := (hSw.cell (p := ⟨g12, 3, none⟩) h128).trans (HK12c.out.cell 3); have yb4 : U.cell? ⟨g12, 4, none⟩ = some (.slice none 0 0) := (hSw.cell (p := ⟨g12, 4, none⟩) h128).trans (HK12c.out.cell 4); have yb5 : U.cell? ⟨g12, 5, none⟩ = some (.bool false) := (hSw.cell (p := ⟨g12, 5, none⟩) h128).trans (HK12c.out.cell 5); have yb6 : U.cell? ⟨g12, 6, none⟩ = some (.string ⟨#[]⟩) := (hSw.cell (p := ⟨g12, 6, none⟩) h128).trans (HK12c.out.cell 6); have yb7 : U.cell? ⟨g12, 7, none⟩ = some (.slice none 0 0) := (hSw.cell (p := ⟨g12, 7, none⟩) h128).trans (HK12c.out.cell 7); have yb8 : U.cell? ⟨g12, 8, none⟩ = some (.slice JI mi.items.length jI) := (hSw.cell (p := ⟨g12, 8, none⟩) h128).trans (HK12c.out.cell 8); have yb9 : U.cell? ⟨g12, 9, none⟩ = some (.slice JS mi.seqs.length jS) := (hSw.cell (p := ⟨g12, 9, none⟩) h128).trans (HK12c.out.cell 9); go_simp); (try (with_reducible rfl)))
              try simp only [Act.put, List.setIfInBounds_toArray, List.set_cons_zero, List.set_cons_succ]
              refine ht_done (by kernel_rfl) rfl ?_
              have hlen : (c.items ++ [gcallF f.x PP q, gsubF mi]).length = c.items.length + 2 := by rw [List.length_append]; rfl
              have hnew : NS w f PP F2 (c.items ++ [gcallF f.x PP q, gsubF mi]) c.seqs AP2 cP2 AF2 cF2 (some ⟨gX, 0, none⟩) capX AS cS (T4.setCell ⟨f.g7, 3, none⟩ (.slice (some ⟨gX, 0, none⟩) (c.items.length + 2) capX)) := by
                have hg := set_grown (g := f.g7) (i := 3) d4 (.slice (some ⟨gX, 0, none⟩) (c.items.length + 2) capX)
                have hcl := HN8.out.cc.grownT 28 (.inl rfl) hg HN8.out.k7
                have hown2 := ownsRow_setCell_other (a := ⟨f.g7, 3, none⟩) hownX (by have := (hownX.lt gX rfl).1; simp [Value.ownBlock]; omega) (.slice (some ⟨gX, 0, none⟩) (c.items.length + 2) capX)
                have hfr : freeL 28 (c.items.flatMap itemC) := by rw [← itemsC_flat]; exact free_itemL _ (by decide) (by decide) (by decide) (by decide) _
                have hx3 := RdL.grown hg HN8.out.k7 _ _ hfr HXL3.out
                have hmp := Rd.grown hg HN8.out.k7 _ _ (free_maps _ (by decide) _) HMAPS8.out
                have hc8 := HC8.out.grownT 28 (.inl rfl) hg HN8.out.k7
                have hcall : gcallF f.x PP q = ⟨8, ⟨#[99, 97, 108, 108]⟩, ⟨#[]⟩, [], [], false, ⟨#[100]⟩, mps, [], []⟩ := by rw [HMPS.out, HN.out, HPK.out]; rfl
                refine HN8.out.step hg ?_ ⟨hcl.parts, hcl.flows, ?_, hcl.seqs⟩
                · rw [hlen]
                  exact (HN8.out.k7.below d4 h78).set_ 3 _
                · refine rd_sl.2 ⟨some ⟨gX, 0, none⟩, capX, xs3 ++ [.int .i64 8, .string ⟨#[99, 97, 108, 108]⟩, .string ⟨#[]⟩, .slice none 0 0, .slice none 0 0, .bool false, .string ⟨#[100]⟩, .slice AM n cM, .slice none 0 0, .slice none 0 0, .int .i64 7, .string ⟨#[115, 117, 98]⟩, .string ⟨#[]⟩, .slice none 0 0, .slice none 0 0, .bool false, .string ⟨#[]⟩, .slice none 0 0, .slice JI mi.items.length jI, .slice JS mi.seqs.length jS], by rw [hlen], by rw [hlen]; exact own_mono hown2 (by omega), ?_⟩
                  rw [List.flatMap_append]
                  refine hx3.append ?_
                  rw [List.flatMap_cons, List.flatMap_cons, List.flatMap_nil, List.append_nil, hcall]
                  exact RdL.append (rd_itemC.2 ⟨_, _, _, _, _, rfl, rd_nilG, rd_nilG, hmp, rd_nilG, rd_nilG⟩) (rd_itemC.2 ⟨_, _, _, _, _, rfl, rd_nilG, rd_nilG, rd_nilG, hc8.items, hc8.seqs⟩)
              have HNEW := Lib.hid hnew
              have z1 : T4.cell? ⟨f.g7, 3, none⟩ = some (.slice AI c.items.length cI) := (d4.cell (p := ⟨f.g7, 3, none⟩) h78).trans HZ3.out
              have zf : T4.frozen? ⟨f.g7, 3, none⟩ = false := (HN8.out.k7.below d4 h78).frozen 3
              have hlk := Nat.lt_of_lt_of_le h78 d4.size
              clear hnew hownX hlen
              go_wp2_with fail
              go_meet
              case rel => exact ⟨some ⟨gX, 0, none⟩, capX, HNEW.out⟩
          · go_simp
            obtain ⟨gG, hgG⟩ : ∃ g, g = V8.heap.size := ⟨_, rfl⟩
            obtain ⟨T1, hT⟩ : ∃ T, T = (V8.drew).alloc (.cells #[.int .i64 8, .string ⟨#[99, 97, 108, 108]⟩, .string ⟨#[]⟩, .slice none 0 0, .slice none 0 0, .bool false, .string ⟨#[100]⟩, .slice AM n cM, .slice none 0 0, .slice none 0 0, .int .i64 7, .string ⟨#[115, 117, 98]⟩, .string ⟨#[]⟩, .slice none 0 0, .slice none 0 0, .bool false, .string ⟨#[]⟩, .slice none 0 0, .slice JI mi.items.length jI, .slice JS mi.seqs.length jS] 33) := ⟨_, rfl⟩
            have d1 : Below V8.heap.size V8 T1 := by rw [hT]; exact d0.alloc d0.size (.cells #[.int .i64 8, .string ⟨#[99, 97, 108, 108]⟩, .string ⟨#[]⟩, .slice none 0 0, .slice none 0 0, .bool false, .string ⟨#[100]⟩, .slice AM n cM, .slice none 0 0, .slice none 0 0, .int .i64 7, .string ⟨#[115, 117, 98]⟩, .string ⟨#[]⟩, .slice none 0 0, .slice none 0 0, .bool false, .string ⟨#[]⟩, .slice none 0 0, .slice JI mi.items.length jI, .slice JS mi.seqs.length jS] 33)
            have kG1 : Blk T1 gG 33 #[.int .i64 8, .string ⟨#[99, 97, 108, 108]⟩, .string ⟨#[]⟩, .slice none 0 0, .slice none 0 0, .bool false, .string ⟨#[100]⟩, .slice AM n cM, .slice none 0 0, .slice none 0 0, .int .i64 7, .string ⟨#[115, 117, 98]⟩, .string ⟨#[]⟩, .slice none 0 0, .slice none 0 0, .bool false, .string ⟨#[]⟩, .slice none 0 0, .slice JI mi.items.length jI, .slice JS mi.seqs.length jS] := by rw [hT, hgG]; exact Blk.new _ _ _
            have nG0 : V8.heap.size ≤ gG := by rw [hgG]; exact d0.size
            show K _ ((V8.drew).alloc (.cells #[.int .i64 8, .string ⟨#[99, 97, 108, 108]⟩, .string ⟨#[]⟩, .slice none 0 0, .slice none 0 0, .bool false, .string ⟨#[100]⟩, .slice AM n cM, .slice none 0 0, .slice none 0 0, .int .i64 7, .string ⟨#[115, 117, 98]⟩, .string ⟨#[]⟩, .slice none 0 0, .slice none 0 0, .bool false, .string ⟨#[]⟩, .slice none 0 0, .slice JI mi.items.length jI, .slice JS mi.seqs.length jS] 33))
            rw [← hT, ← hgG]
            clear hT hgG
            refine hK.out _ _ (d1) (fun hHeld => ?_)
            clear hK K
            try simp only [Act.put, List.setIfInBounds_toArray, List.set_cons_zero, List.set_cons_succ]
            refine ht_one 0 rfl (by kernel_rfl) (fun K hK => ?_)
            go_simp
            obtain ⟨gE, hgE⟩ : ∃ g, g = T1.heap.size := ⟨_, rfl⟩
            obtain ⟨T2, hT⟩ : ∃ T, T = (T1).alloc (.cells #[] 33) := ⟨_, rfl⟩
            have d2 : Below V8.heap.size V8 T2 := by rw [hT]; exact d1.alloc d1.size (.cells #[] 33)
            have hE2 : T2.ownsRow V8.heap.size 33 10 (.slice (some ⟨gE, 0, none⟩) 0 0) 0 [] := by rw [hT, hgE]; exact World.ownsRow_lit (base := V8.heap.size) _ #[] 0 d1.size (by decide) rfl
            have kG2 : Blk T2 gG 33 #[.int .i64 8, .string ⟨#[99, 97, 108, 108]⟩, .string ⟨#[]⟩, .slice none 0 0, .slice none 0 0, .bool false, .string ⟨#[100]⟩, .slice AM n cM, .slice none 0 0, .slice none 0 0, .int .i64 7, .string ⟨#[115, 117, 98]⟩, .string ⟨#[]⟩, .slice none 0 0, .slice none 0 0, .bool false, .string ⟨#[]⟩, .slice none 0 0, .slice JI mi.items.length jI, .slice JS mi.seqs.length jS] := by rw [hT]; exact kG1.alloc _
            have nE0 : V8.heap.size ≤ gE := by rw [hgE]; exact d1.size
            have nGE : gG < gE := by rw [hgE]; exact kG1.lt
            show K _ ((T1).alloc (.cells #[] 33))
            rw [← hT, ← hgE]
            clear hT hgE
            refine hK.out _ _ (d2) (fun hHeld => ?_)
            clear hK K
            try simp only [Act.put, List.setIfInBounds_toArray, List.set_cons_zero, List.set_cons_succ]
            refine ht_one 3 rfl (by kernel_rfl) (fun K hK => ?_)
            refine step_append_any _ (by rfl) (.tmp 94) (.tmp 96) _ (by rfl) V8.heap.size 33 ii0 _ 10 184 Try.underlying25 hii0 hiz0 hiz1 hiz2 rfl (by omega) (.slice (some ⟨gE, 0, none⟩) 0 0) 0 [] (by rfl) hE2 _ AI c.items.length cI xs3 (by rfl) (HXR3.out.below d2) HX13.out (by unfold maxLen; omega) (by omega) d2.size ?_
            intro v3 T3 hA3 hgrow _
            simp only [Nat.zero_add, List.nil_append] at hA3
            obtain ⟨A3, c3, rfl, _, _⟩ := own_slice hA3
            have d3 : Below V8.heap.size V8 T3 := d2.grown hgrow d2.size (fun j hj => by simp [Value.ownBlock] at hj; omega)
            have kG3 : Blk T3 gG 33 #[.int .i64 8, .string ⟨#[99, 97, 108, 108]⟩, .string ⟨#[]⟩, .slice none 0 0, .slice none 0 0, .bool false, .string ⟨#[100]⟩, .slice AM n cM, .slice none 0 0, .slice none 0 0, .int .i64 7, .string ⟨#[115, 117, 98]⟩, .string ⟨#[]⟩, .slice none 0 0, .slice none 0 0, .bool false, .string ⟨#[]⟩, .slice none 0 0, .slice JI mi.items.length jI, .slice JS mi.seqs.length jS] := kG2.grown hgrow (by simp [Value.ownBlock]; omega)
            clear hgrow
            refine hK.out _ _ (d3) (fun hHeld => ?_)
            clear hK K
            try simp only [Act.put, List.setIfInBounds_toArray, List.set_cons_zero, List.set_cons_succ]
            refine ht_one 7 rfl (by kernel_rfl) (fun K hK => ?_)
            refine step_append_lies _ (by rfl) (.tmp 97) (.tmp 100) _ (by rfl) V8.heap.size 33 ii0 _ 10 184 Try.underlying25 hii0 hiz0 hiz1 hiz2 rfl (by omega) (.slice A3 c.items.length c3) c.items.length xs3 (by rfl) hA3 ⟨gG, 0, none⟩ 2 2 [.int .i64 8, .string ⟨#[99, 97, 108, 108]⟩, .string ⟨#[]⟩, .slice none 0 0, .slice none 0 0, .bool false, .string ⟨#[100]⟩, .slice AM n cM, .slice none 0 0, .slice none 0 0, .int .i64 7, .string ⟨#[115, 117, 98]⟩, .string ⟨#[]⟩, .slice none 0 0, .slice none 0 0, .bool false, .string ⟨#[]⟩, .slice none 0 0, .slice JI mi.items.length jI, .slice JS mi.seqs.length jS] (by rfl) (by rfl) (World.news_of_block (cs := #[.int .i64 8, .string ⟨#[99, 97, 108, 108]⟩, .string ⟨#[]⟩, .slice none 0 0, .slice none 0 0, .bool false, .string ⟨#[100]⟩, .slice AM n cM, .slice none 0 0, .slice none 0 0, .int .i64 7, .string ⟨#[115, 117, 98]⟩, .string ⟨#[]⟩, .slice none 0 0, .slice none 0 0, .bool false, .string ⟨#[]⟩, .slice none 0 0, .slice JI mi.items.length jI, .slice JS mi.seqs.length jS]) (t := 33) (fr := (0, 0)) kG3) (by simp [Value.oneCell']) (by omega) (by unfold maxLen; omega) (by omega) d3.size _ rfl ?_
            intro gX capX T4 hownX hgrowX _ _
            have d4 : Below V8.heap.size V8 T4 := d3.grown hgrowX d3.size (fun j hj => (hA3.lt j hj).1)
            clear hgrowX
            refine hK.out _ _ (d4) (fun hHeld => ?_)
            clear hK K
            try simp only [Act.put, List.setIfInBounds_toArray, List.set_cons_zero, List.set_cons_succ]
            refine ht_take 8 (v := ?vj_7) rfl (by kernel_rfl) (fun _ _ _ h => h) (Or.inl ⟨by rfl, ?hj_7⟩) hHeld ?rj_7
            case hj_7 => ((intro U hSw; have y2 : U.cell? ⟨f.g7, 3, none⟩ = some (.slice AI c.items.length cI) := (hSw.cell (p := ⟨f.g7, 3, none⟩) h78).trans HZ3.out; have ya0 : U.cell? ⟨g9, 0, none⟩ = some (.int .i64 8) := (hSw.cell (p := ⟨g9, 0, none⟩) h98).trans (HK9c.out.cell 0); have ya1 : U.cell? ⟨g9, 1, none⟩ = some (.string ⟨#[99, 97, 108, 108]⟩) := (hSw.cell (p := ⟨g9, 1, none⟩) h98).trans (HK9c.out.cell 1); have ya2 : U.cell? ⟨g9, 2, none⟩ = some (.string ⟨#[]⟩) := (hSw.cell (p := ⟨g9, 2, none⟩) h98).trans (HK9c.out.cell 2); have ya3 : U.cell? ⟨g9, 3, none⟩ = some (.slice none 0 0) := (hSw.cell (p := ⟨g9, 3, none⟩) h98).trans (HK9c.out.cell 3); have ya4 : U.cell? ⟨g9, 4, none⟩ = some (.slice none 0 0) := (hSw.cell (p := ⟨g9, 4, none⟩) h98).trans (HK9c.out.cell 4); have ya5 : U.cell? ⟨g9, 5, none⟩ = some (.bool false) := (hSw.cell (p := ⟨g9, 5, none⟩) h98).trans (HK9c.out.cell 5); have ya6 : U.cell? ⟨g9, 6, none⟩ = some (.string ⟨#[100]⟩) := (hSw.cell (p := ⟨g9, 6, none⟩) h98).trans (HK9c.out.cell 6); have ya7 : U.cell? ⟨g9, 7, none⟩ = some (.slice AM n cM) := (hSw.cell (p := ⟨g9, 7, none⟩) h98).trans (HK9c.out.cell 7); have ya8 : U.cell? ⟨g9, 8, none⟩ = some (.slice none 0 0) := (hSw.cell (p := ⟨g9, 8, none⟩) h98).trans (HK9c.out.cell 8); have ya9 : U.cell? ⟨g9, 9, none⟩ = some (.slice none 0 0) := (hSw.cell (p := ⟨g9, 9, none⟩) h98).trans (HK9c.out.cell 9); have yb0 : U.cell? ⟨g12, 0, none⟩ = some (.int .i64 7) := (hSw.cell (p := ⟨g12, 0, none⟩) h128).trans (HK12c.out.cell 0); have yb1 : U.cell? ⟨g12, 1, none⟩ = some (.string ⟨#[115, 117, 98]⟩) := (hSw.cell (p := ⟨g12, 1, none⟩) h128).trans (HK12c.out.cell 1); have yb2 : U.cell? ⟨g12, 2, none⟩ = some (.string ⟨#[]⟩) := (hSw.cell (p := ⟨g12, 2, none⟩) h128).trans (HK12c.out.cell 2); have yb3 : U.cell? ⟨g12, 3, none⟩ = some (.slice none 0 0) := (hSw.cell (p := ⟨g12, 3, none⟩) h128).trans (HK12c.out.cell 3); have yb4 : U.cell? ⟨g12, 4, none⟩ = some (.slice none 0 0) := (hSw.cell (p := ⟨g12, 4, none⟩) h128).trans (HK12c.out.cell 4); have yb5 : U.cell? ⟨g12, 5, none⟩ = some (.bool false) := (hSw.cell (p := ⟨g12, 5, none⟩) h128).trans (HK12c.out.cell 5); have yb6 : U.cell? ⟨g12, 6, none⟩ = some (.string ⟨#[]⟩) := (hSw.cell (p := ⟨g12, 6, none⟩) h128).trans (HK12c.out.cell 6); have yb7 : U.cell? ⟨g12, 7, none⟩ = some (.slice none 0 0) := (hSw.cell (p := ⟨g12, 7, none⟩) h128).trans (HK12c.out.cell 7); have yb8 : U.cell? ⟨g12, 8, none⟩ = some (.slice JI mi.items.length jI) := (hSw.cell (p := ⟨g12, 8, none⟩) h128).trans (HK12c.out.cell 8); have yb9 : U.cell? ⟨g12, 9, none⟩ = some (.slice JS mi.seqs.length jS) := (hSw.cell (p := ⟨g12, 9, none⟩) h128).trans (HK12c.out.cell 9); go_simp); (try (with_reducible rfl)))
            try simp only [Act.put, List.setIfInBounds_toArray, List.set_cons_zero, List.set_cons_succ]
            refine ht_done (by kernel_rfl) rfl ?_
            have hlen : (c.items ++ [gcallF f.x PP q, gsubF mi]).length = c.items.length + 2 := by rw [List.length_append]; rfl
            have hnew : NS w f PP F2 (c.items ++ [gcallF f.x PP q, gsubF mi]) c.seqs AP2 cP2 AF2 cF2 (some ⟨gX, 0, none⟩) capX AS cS (T4.setCell ⟨f.g7, 3, none⟩ (.slice (some ⟨gX, 0, none⟩) (c.items.length + 2) capX)) := by
              have hg := set_grown (g := f.g7) (i := 3) d4 (.slice (some ⟨gX, 0, none⟩) (c.items.length + 2) capX)
              have hcl := HN8.out.cc.grownT 28 (.inl rfl) hg HN8.out.k7
              have hown2 := ownsRow_setCell_other (a := ⟨f.g7, 3, none⟩) hownX (by have := (hownX.lt gX rfl).1; simp [Value.ownBlock]; omega) (.slice (some ⟨gX, 0, none⟩) (c.items.length + 2) capX)
              have hfr : freeL 28 (c.items.flatMap itemC) := by rw [← itemsC_flat]; exact free_itemL _ (by decide) (by decide) (by decide) (by decide) _
              have hx3 := RdL.grown hg HN8.out.k7 _ _ hfr HXL3.out
              have hmp := Rd.grown hg HN8.out.k7 _ _ (free_maps _ (by decide) _) HMAPS8.out
              have hc8 := HC8.out.grownT 28 (.inl rfl) hg HN8.out.k7
              have hcall : gcallF f.x PP q = ⟨8, ⟨#[99, 97, 108, 108]⟩, ⟨#[]⟩, [], [], false, ⟨#[100]⟩, mps, [], []⟩ := by rw [HMPS.out, HN.out, HPK.out]; rfl
              refine HN8.out.step hg ?_ ⟨hcl.parts, hcl.flows, ?_, hcl.seqs⟩
              · rw [hlen]
                exact (HN8.out.k7.below d4 h78).set_ 3 _
              · refine rd_sl.2 ⟨some ⟨gX, 0, none⟩, capX, xs3 ++ [.int .i64 8, .string ⟨#[99, 97, 108, 108]⟩, .string ⟨#[]⟩, .slice none 0 0, .slice none 0 0, .bool false, .string ⟨#[100]⟩, .slice AM n cM, .slice none 0 0, .slice none 0 0, .int .i64 7, .string ⟨#[115, 117, 98]⟩, .string ⟨#[]⟩, .slice none 0 0, .slice none 0 0, .bool false, .string ⟨#[]⟩, .slice none 0 0, .slice JI mi.items.length jI, .slice JS mi.seqs.length jS], by rw [hlen], by rw [hlen]; exact own_mono hown2 (by omega), ?_⟩
                rw [List.flatMap_append]
                refine hx3.append ?_
                rw [List.flatMap_cons, List.flatMap_cons, List.flatMap_nil, List.append_nil, hcall]
                exact RdL.append (rd_itemC.2 ⟨_, _, _, _, _, rfl, rd_nilG, rd_nilG, hmp, rd_nilG, rd_nilG⟩) (rd_itemC.2 ⟨_, _, _, _, _, rfl, rd_nilG, rd_nilG, rd_nilG, hc8.items, hc8.seqs⟩)
            have HNEW := Lib.hid hnew
            have z1 : T4.cell? ⟨f.g7, 3, none⟩ = some (.slice AI c.items.length cI) := (d4.cell (p := ⟨f.g7, 3, none⟩) h78).trans HZ3.out
            have zf : T4.frozen? ⟨f.g7, 3, none⟩ = false := (HN8.out.k7.below d4 h78).frozen 3
            have hlk := Nat.lt_of_lt_of_le h78 d4.size
            clear hnew hownX hlen
            go_wp2_with fail
            go_meet
            case rel => exact ⟨some ⟨gX, 0, none⟩, capX, HNEW.out⟩
        case rest =>
          obtain ⟨AI2, cI2, hN9⟩ := hcut
          obtain ⟨V9, rfl⟩ : ∃ V, V = wc := ⟨_, rfl⟩
          obtain ⟨I2, hI2⟩ : ∃ l, l = c.items ++ [gcallF f.x PP q, gsubF mi] := ⟨_, rfl⟩
          rw [← hI2] at hN9
          have HI2x := Lib.hid hI2
          obtain ⟨ss, z, hss⟩ : ∃ ss z, c.seqs = ss ++ [z] := by
            rcases List.eq_nil_or_concat c.seqs with h | ⟨ss, z, h⟩
            · rw [h] at hcS1; simp at hcS1
            · exact ⟨ss, z, by rw [h, List.concat_eq_append]⟩
          obtain ⟨ns, hns⟩ : ∃ k, k = ss.length := ⟨_, rfl⟩
          have hsl : c.seqs.length = ns + 1 := by rw [hss, hns]; simp
          obtain ⟨xs4, hr4, hxl4, h14⟩ := rd_reads hN9.cc.seqs
          have hxs : ∃ xa, xs4 = xa ++ [.string z.id, .string z.src, .string z.dst] ∧ xa.length = ns * 3 ∧ RdL V9 (ss.flatMap seqC) xa := by
            rw [hss, List.flatMap_append] at hxl4
            obtain ⟨xa, xb, rfl, ha, hb⟩ := hxl4.split
            rw [List.flatMap_cons, List.flatMap_nil, List.append_nil] at hb
            refine ⟨xa, by rw [rd_seqC hb], ?_, ha⟩
            rw [ha.len, hns]
            exact flat3_len ss
          obtain ⟨xa, hxa, hxal, hra⟩ := hxs
          have hk7 := hN9.k7
          have hy4 : V9.cell? ⟨f.g7, 4, none⟩ = some (.slice AS (ns + 1) cS) := by rw [← hsl]; exact hk7.cell 4
          have h79 := hk7.lt
          have hns108 : ns + 1 ≤ 108 := by omega
          rw [hsl] at hr4
          have HN9 := Lib.hid hN9
          have HXR4 := Lib.hid hr4
          have HX14 := Lib.hid h14
          have HRA := Lib.hid hra
          have HSS := Lib.hid hss
          have HNSx := Lib.hid hns
          have HXA := Lib.hid hxa
          have HXAL := Lib.hid hxal
          have HY4 := Lib.hid hy4
          obtain ⟨si0, hsi0, hsz0, hsz1, hsz2⟩ := info_parts Try.infoSeqG
          have hE0 : (V9.alloc (.cells #[] 36)).ownsRow V9.heap.size 36 3 (.slice (some ⟨V9.heap.size, 0, none⟩) 0 0) 0 [] := World.ownsRow_lit (base := V9.heap.size) V9 #[] 0 (Nat.le_refl _) (by decide) rfl
          have HE0 := Lib.hid hE0
          have HB90 := Lib.hid ((Below.refl V9.heap.size V9).alloc (Nat.le_refl _) (.cells #[] 36))
          clear hN9 hI2 hr4 hxl4 h14 hra hss hns hxa hxal hk7 hE0 hsl
          go_upto_region 16 with fail
          go_wp2_with (at_builtin; refine wpList_append_any _ rfl (.tmp 103) (.tmp 105) _ rfl V9.heap.size 36 si0 _ 3 48 Try.underlying26 hsi0 hsz0 hsz1 hsz2 rfl (by omega) (.slice (some ⟨V9.heap.size, 0, none⟩) 0 0) 0 [] rfl HE0.out _ AS (ns + 1) cS xs4 rfl (HXR4.out.below HB90.out) HX14.out (by unfold maxLen; omega) (by omega) HB90.out.size ?_)
          intro v13 T1 hown1 hgrow1 _
          try simp only [Nat.zero_add, List.nil_append] at hown1
          obtain ⟨A13, c13, rfl, hc13, _⟩ := own_slice hown1
          obtain ⟨gS, rfl, hgSl, hgSb, hcS13⟩ := own_at hown1 (by omega)
          have d1 : Below V9.heap.size V9 T1 := HB90.out.grown hgrow1 HB90.out.size (fun j hj => (HE0.out.lt j hj).1)
          have hzd : T1.cell? ⟨gS, ns * 3 + 2, none⟩ = some (.string z.dst) := by
            rw [hcS13 _ (by omega), HXA.out, List.getElem?_append_right (by rw [HXAL.out]; omega), HXAL.out, show ns * 3 + 2 - ns * 3 = 2 by omega]
            rfl
          have hst := hown1.stored (ns * 3 + 2) (.string ⟨#[99, 97, 108, 108]⟩)
          have hzf := own_frozen hown1 (ns * 3 + 2)
          obtain ⟨T2, hT2⟩ : ∃ T, T = T1.setCell ⟨gS, ns * 3 + 2, none⟩ (.string ⟨#[99, 97, 108, 108]⟩) := ⟨_, rfl⟩
          have hown2 := hst.1
          rw [← hT2] at hown2
          have d2 : Below V9.heap.size V9 T2 := by rw [hT2]; exact d1.setCell (p := ⟨gS, ns * 3 + 2, none⟩) hgSb _
          have hset : xs4.set (ns * 3 + 2) (.string ⟨#[99, 97, 108, 108]⟩) = xa ++ [.string z.id, .string z.src, .string ⟨#[99, 97, 108, 108]⟩] := by
            rw [HXA.out, List.set_append_right _ _ (by rw [HXAL.out]; omega), HXAL.out, show ns * 3 + 2 - ns * 3 = 2 by omega]
            rfl
          rw [hset] at hown2
          have y42 : T2.cell? ⟨f.g7, 4, none⟩ = some (.slice AS (ns + 1) cS) := (d2.cell (p := ⟨f.g7, 4, none⟩) h79).trans HY4.out
          have hT2s : T2.heap.size = T1.heap.size := by rw [hT2]; simp [World.setCell]
          have HOW2 := Lib.hid (hown2.alloc (.cells #[.string ⟨#[115, 113, 49]⟩, .string ⟨#[99, 97, 108, 108]⟩, .string ⟨#[115, 117, 98]⟩, .string ⟨#[115, 113, 50]⟩, .string ⟨#[115, 117, 98]⟩, .string z.dst] 36))
          have HD2 := Lib.hid (d2.alloc d2.size (.cells #[.string ⟨#[115, 113, 49]⟩, .string ⟨#[99, 97, 108, 108]⟩, .string ⟨#[115, 117, 98]⟩, .string ⟨#[115, 113, 50]⟩, .string ⟨#[115, 117, 98]⟩, .string z.dst] 36))
          have HT2 := Lib.hid hT2.symm
          have hnsI : ((ns : Int) + 1) - 1 = (ns : Int) := by omega
          clear hst hown1 hgrow1 hcS13 hset hown2 d2 hT2 d1 hT2s y42
          go_upto_region 19 with fail
          rw [HT2.out]
          clear hzd hzf
          go_wp2_with (at_builtin; refine wpList_append_lies _ rfl (.tmp 120) (.tmp 124) _ rfl V9.heap.size 36 si0 _ 3 48 Try.underlying26 hsi0 hsz0 hsz1 hsz2 rfl (by omega) _ _ _ rfl HOW2.out ⟨T2.heap.size, 0, none⟩ 2 2 [.string ⟨#[115, 113, 49]⟩, .string ⟨#[99, 97, 108, 108]⟩, .string ⟨#[115, 117, 98]⟩, .string ⟨#[115, 113, 50]⟩, .string ⟨#[115, 117, 98]⟩, .string z.dst] rfl rfl (World.news_of_block (cs := #[.string ⟨#[115, 113, 49]⟩, .string ⟨#[99, 97, 108, 108]⟩, .string ⟨#[115, 117, 98]⟩, .string ⟨#[115, 113, 50]⟩, .string ⟨#[115, 117, 98]⟩, .string z.dst]) (t := 36) (fr := (0, 0)) (heap_alloc_new T2 _)) (by simp [Value.oneCell']) (by omega) (by unfold maxLen; omega) (by omega) HD2.out.size _ rfl ?_)
          intro gX capX T4 hown4 hgrow4 _ _
          have d4 : Below V9.heap.size V9 T4 := HD2.out.grown hgrow4 HD2.out.size (fun j hj => (HOW2.out.lt j hj).1)
          have z1 : T4.cell? ⟨f.g7, 4, none⟩ = some (.slice AS (ns + 1) cS) := (d4.cell (p := ⟨f.g7, 4, none⟩) h79).trans HY4.out
          have zf : T4.frozen? ⟨f.g7, 4, none⟩ = false := (HN9.out.k7.below d4 h79).frozen 4
          have hlk := Nat.lt_of_lt_of_le h79 d4.size
          obtain ⟨SS, hSS⟩ : ∃ S, S = gseqsF c.seqs := ⟨_, rfl⟩
          have hSSl : SS = ss ++ [⟨z.id, z.src, gcallS⟩, ⟨⟨#[115, 113, 49]⟩, gcallS, gsubS⟩, ⟨⟨#[115, 113, 50]⟩, gsubS, z.dst⟩] := by
            rw [hSS, HSS.out]
            unfold gseqsF glastTo
            simp
          have hSSn : SS.length = ns + 1 + 2 := by rw [hSSl, HNSx.out]; simp
          obtain ⟨W5, hW5⟩ : ∃ W, W = T4.setCell ⟨f.g7, 4, none⟩ (.slice (some ⟨gX, 0, none⟩) (ns + 1 + 2) capX) := ⟨_, rfl⟩
          have hN10 : NS w f PP F2 I2 SS AP2 cP2 AF2 cF2 AI2 cI2 (some ⟨gX, 0, none⟩) capX W5 := by
            have hg := set_grown (g := f.g7) (i := 4) d4 (.slice (some ⟨gX, 0, none⟩) (ns + 1 + 2) capX)
            have hcl := HN9.out.cc.grownT 28 (.inl rfl) hg HN9.out.k7
            have hown5 := ownsRow_setCell_other (a := ⟨f.g7, 4, none⟩) hown4 (by have := (hown4.lt gX rfl).1; simp [Value.ownBlock]; omega) (.slice (some ⟨gX, 0, none⟩) (ns + 1 + 2) capX)
            rw [hW5]
            refine HN9.out.step hg ?_ ⟨hcl.parts, hcl.flows, hcl.items, ?_⟩
            · rw [hSSn]
              exact (HN9.out.k7.below d4 h79).set_ 4 _
            · refine rd_sl.2 ⟨some ⟨gX, 0, none⟩, capX, _, by rw [hSSn], by rw [hSSn]; exact own_mono hown5 (by omega), ?_⟩
              rw [hSSl, List.flatMap_append]
              refine RdL.append (RdL.flat (w := V9) (flatL_flat (fun x => by unfold seqC; simp [flatL]) _) HRA.out) ?_
              exact rdl_cons.2 ⟨_, _, rfl, rd_str.2 rfl, rdl_cons.2 ⟨_, _, rfl, rd_str.2 rfl, rdl_cons.2 ⟨_, _, rfl, rd_str.2 rfl, rdl_cons.2 ⟨_, _, rfl, rd_str.2 rfl, rdl_cons.2 ⟨_, _, rfl, rd_str.2 rfl, rdl_cons.2 ⟨_, _, rfl, rd_str.2 rfl, rdl_cons.2 ⟨_, _, rfl, rd_str.2 rfl, rdl_cons.2 ⟨_, _, rfl, rd_str.2 rfl, rdl_cons.2 ⟨_, _, rfl, rd_str.2 rfl, rdl_nil.2 rfl⟩⟩⟩⟩⟩⟩⟩⟩⟩
          have HN10 := Lib.hid hN10
          have HW5 := Lib.hid hW5.symm
          have HSSx := Lib.hid hSS
          clear hown4 hgrow4 d4 hSS hSSl hSSn hW5 hN10
          go_upto_region 20 with fail
          rw [HW5.out]
          clear z1 zf hlk
          have hk5 := HN10.out.k5
          have hk6 := HN10.out.k6
          have hk7 := HN10.out.k7
          have hk4 := HN10.out.k4
          have y5 : W5.cell? ⟨f.g5, 0, none⟩ = some (.slice f.A1 4 f.c1) := hk5.cell 0
          have ya0 : W5.cell? ⟨f.g7, 0, none⟩ = some (.string f.cid) := hk7.cell 0
          have ya1 : W5.cell? ⟨f.g7, 1, none⟩ = some (.slice AP2 PP.length cP2) := hk7.cell 1
          have ya2 : W5.cell? ⟨f.g7, 2, none⟩ = some (.slice AF2 F2.length cF2) := hk7.cell 2
          have ya3 : W5.cell? ⟨f.g7, 3, none⟩ = some (.slice AI2 I2.length cI2) := hk7.cell 3
          have ya4 : W5.cell? ⟨f.g7, 4, none⟩ = some (.slice (some ⟨gX, 0, none⟩) SS.length capX) := hk7.cell 4
          have yb0 : W5.cell? ⟨f.g6, 0, none⟩ = some (.string f.x.id) := hk6.cell 0
          have yb1 : W5.cell? ⟨f.g6, 1, none⟩ = some (.slice f.XP f.x.parts.length f.kP) := hk6.cell 1
          have yb2 : W5.cell? ⟨f.g6, 2, none⟩ = some (.slice f.XF f.x.flows.length f.kF) := hk6.cell 2
          have yb3 : W5.cell? ⟨f.g6, 3, none⟩ = some (.slice f.XI f.x.items.length f.kI) := hk6.cell 3
          have yb4 : W5.cell? ⟨f.g6, 4, none⟩ = some (.slice f.XS f.x.seqs.length f.kS) := hk6.cell 4
          have q40 : W5.cell? ⟨w.heap.size, 0, none⟩ = some (.slice none 0 0) := hk4.cell 0
          have q41 : W5.cell? ⟨w.heap.size, 1, none⟩ = some (.slice none 0 0) := hk4.cell 1
          have qf0 := hk4.frozen 0
          have qf1 := hk4.frozen 1
          have hl4 := hk4.lt
          obtain ⟨gc, hgc⟩ : ∃ g, g = W5.heap.size := ⟨_, rfl⟩
          obtain ⟨W6, hW6⟩ : ∃ W, W = W5.alloc (.cells #[.string f.cid, .slice AP2 PP.length cP2, .slice AF2 F2.length cF2, .slice AI2 I2.length cI2, .slice (some ⟨gX, 0, none⟩) SS.length capX, .string f.x.id, .slice f.XP f.x.parts.length f.kP, .slice f.XF f.x.flows.length f.kF, .slice f.XI f.x.items.length f.kI, .slice f.XS f.x.seqs.length f.kS] 28) := ⟨_, rfl⟩
          have b56 : Below W5.heap.size W5 W6 := by rw [hW6]; exact (Below.refl _ _).alloc (Nat.le_refl _) _
          have hk46 := hk4.below b56 hl4
          have hch : Rd W6 (chorsD [⟨f.cid, PP, F2, I2, SS⟩, f.x]) (.slice (some ⟨gc, 0, none⟩) 2 2) := by
            have h1 := HN10.out.cc.below b56
            have h2 := HN10.out.cx.below b56
            refine rd_sl.2 ⟨_, _, [.string f.cid, .slice AP2 PP.length cP2, .slice AF2 F2.length cF2, .slice AI2 I2.length cI2, .slice (some ⟨gX, 0, none⟩) SS.length capX, .string f.x.id, .slice f.XP f.x.parts.length f.kP, .slice f.XF f.x.flows.length f.kF, .slice f.XI f.x.items.length f.kI, .slice f.XS f.x.seqs.length f.kS], rfl, ?_, ?_⟩
            · rw [hW6, hgc]
              exact World.ownsRow_lit (base := 0) (size := 5) W5 #[.string f.cid, .slice AP2 PP.length cP2, .slice AF2 F2.length cF2, .slice AI2 I2.length cI2, .slice (some ⟨gX, 0, none⟩) SS.length capX, .string f.x.id, .slice f.XP f.x.parts.length f.kP, .slice f.XF f.x.flows.length f.kF, .slice f.XI f.x.items.length f.kI, .slice f.XS f.x.seqs.length f.kS] 2 (by omega) (by unfold maxLen; omega) rfl
            · rw [List.flatMap_cons, List.flatMap_cons, List.flatMap_nil, List.append_nil]
              exact RdL.append (rd_chorC.2 ⟨_, _, _, _, rfl, h1.parts, h1.flows, h1.items, h1.seqs⟩) (rd_chorC.2 ⟨_, _, _, _, rfl, h2.parts, h2.flows, h2.items, h2.seqs⟩)
          have hblk := putAll_blk [.slice f.A1 4 f.c1, .slice (some ⟨gc, 0, none⟩) 2 2] 0 W6 _ hk46 rfl
          have hfc : f.cid = c.id := by rw [HCI.out]; exact congrArg NF.cid HF.out
          have hend : DocEndN w (gnestedF p q) (.returned (.agg #[.slice f.A1 4 f.c1, .slice (some ⟨gc, 0, none⟩) 2 2])) (putAll W6 w.heap.size 0 [.slice f.A1 4 f.c1, .slice (some ⟨gc, 0, none⟩) 2 2]) := by
            have hg := putAll_grown [.slice f.A1 4 f.c1, .slice (some ⟨gc, 0, none⟩) 2 2] (g := w.heap.size) W6
            have hfin : gnestedF p q = ⟨gmsgsF, [⟨f.cid, PP, F2, I2, SS⟩, f.x]⟩ := by rw [HND.out, ← HN.out, ← HPP.out, HMI2.out, HF2.out, HI2x.out, hfc, HSSx.out]
            rw [hfin]
            exact ⟨f.A1, f.c1, gc, rfl, Rd.grown hg hk46 _ _ (free_msgs _ (by decide) _) (Rd.below b56 _ _ HN10.out.ms), Rd.grown hg hk46 _ _ (free_chors _ (by decide) (by decide) (by decide) (by decide) (by decide) (by decide) (by decide) _) hch, by rw [hgc]; exact HN10.out.bel.size, putAll_below (Nat.le_refl _) _ 0 _ (HN10.out.bel.trans (b56.mono HN10.out.bel.size))⟩
          have q60 : W6.cell? ⟨w.heap.size, 0, none⟩ = some (.slice none 0 0) := hk46.cell 0
          have q61 : W6.cell? ⟨w.heap.size, 1, none⟩ = some (.slice none 0 0) := hk46.cell 1
          have q6f0 := hk46.frozen 0
          have q6f1 := hk46.frozen 1
          have HBK := Lib.hid hblk
          have HEND := Lib.hid hend
          have HW6 := Lib.hid hW6.symm
          have HGC := Lib.hid hgc.symm
          clear hk5 hk6 hk7 hk4 hW6 hgc b56 hk46 hch hblk hend hfc
          go_wp2_with (rw [HW6.out, HGC.out])
          exact bodyPost_ret (ret_nestG HBK.out rfl) rfl HEND.out
theorem nested_gen {w : World} {A : Option Addr} {cap : Nat} {p : List Int} {B : Option Addr} {capq : Nat} {q : List Int} (hp : IntsAt w A p) (hl : p.length ≤ maxLen) (hq : IntsAt w B q) (hlq : q.length ≤ maxLen) :
    Calls Try.prog 16 #[.slice A p.length cap, .slice B q.length capq] w (DocEnd w (gnestedF p q)) := (nested_genN hp hl hq hlq).mono (fun _ _ h => h.old)
end Go.Proofs.Yteoioboiniealaa
