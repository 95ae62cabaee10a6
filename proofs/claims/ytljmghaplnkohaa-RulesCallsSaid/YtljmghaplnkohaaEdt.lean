/- A document of the generator, opened; its choreography's items, message flows and what follows what copied, to be changed. -/
import Derived.Test.YtljmghaplnkohaaChgFr
import Derived.Test.YtljmghaplnkohaaIdsAB
import Derived.Test.YtljmghaplnkohaaGenQ
namespace Go.Proofs.Ytljmghaplnkohaa
open Go.RowKit

theorem Try.infoFlowE : (Try.prog.info? 62).map (fun i => (i.zero, i.size, i.bytes)) = some (some (.agg #[.string ⟨#[]⟩, .string ⟨#[]⟩, .string ⟨#[]⟩, .string ⟨#[]⟩]), 4, 64) := by kernel_rfl
/-- A choreography's cells, those of others behind it. -/
abbrev chCs (id : ByteArray) (vP vF vI vS : Value) (xs : List Value) : Array Value := (Value.string id :: vP :: vF :: vI :: vS :: xs).toArray
/-- A document that came back, opened. -/
structure OpenD (w w1 : World) (c : ChorD) (r : List ChorD) (gb : Nat) (A1 AP AF AI AS : Option Addr) (c1 cP cF cI cS : Nat) (xs xsI xsF xsS : List Value) : Prop where
  msgs : Rd w1 (msgsD gmsgsF) (.slice A1 4 c1)
  chs : Rd w1 (chorsD (c :: r)) (.slice (some ⟨gb, 0, none⟩) (r.length + 1) (r.length + 1))
  blk : Blk w1 gb 54 (chCs c.id (.slice AP c.parts.length cP) (.slice AF c.flows.length cF) (.slice AI c.items.length cI) (.slice AS c.seqs.length cS) xs)
  parts : Rd w1 (partsD c.parts) (.slice AP c.parts.length cP)
  rest : RdL w1 (r.flatMap chorC) xs
  rI : Reads w1 w1.heap.size 10 AI c.items.length xsI
  lI : RdL w1 (c.items.flatMap itemC) xsI
  oI : ∀ u ∈ xsI, u.oneCell' = true
  rF : Reads w1 w1.heap.size 4 AF c.flows.length xsF
  lF : RdL w1 (c.flows.flatMap flowC) xsF
  oF : ∀ u ∈ xsF, u.oneCell' = true
  rS : Reads w1 w1.heap.size 3 AS c.seqs.length xsS
  lS : RdL w1 (c.seqs.flatMap seqC) xsS
  oS : ∀ u ∈ xsS, u.oneCell' = true
  ge : w.heap.size ≤ gb
  bel : Below w.heap.size w w1
theorem doc_open {w w1 : World} {e : Ending} {c : ChorD} {r : List ChorD} {d : DocD} {n : Nat} (hn : r.length + 1 = n) (hd : d = ⟨gmsgsF, c :: r⟩) (h : DocEndN w d e w1) :
    ∃ A1 c1 gb AP cP AF cF AI cI AS cS xs xsI xsF xsS, e = .returned (.agg #[.slice A1 4 c1, .slice (some ⟨gb, 0, none⟩) n n]) ∧ OpenD w w1 c r gb A1 AP AF AI AS c1 cP cF cI cS xs xsI xsF xsS := by
  subst hd
  subst hn
  obtain ⟨A1, c1, gb, rfl, hms, hch, hge, hbel⟩ := h
  have hch0 : Rd w1 (chorsD (c :: r)) (.slice (some ⟨gb, 0, none⟩) (r.length + 1) (r.length + 1)) := hch
  obtain ⟨A', k', xsC, hvC, hoC, hlC⟩ := rd_sl.1 hch0
  injection hvC with e1 e2 e3
  subst e1
  subst e3
  have kb := blk_of_ownC hoC
  rw [List.flatMap_cons] at hlC
  obtain ⟨a, xs, rfl, hlc, hlr⟩ := hlC.split
  obtain ⟨vP, vF, vI, vS, rfl, hP, hF, hI, hS⟩ := rd_chorC.1 hlc
  obtain ⟨AP, cP, rfl⟩ := rd_form hP
  obtain ⟨AF, cF, rfl⟩ := rd_form hF
  obtain ⟨AI, cI, rfl⟩ := rd_form hI
  obtain ⟨AS, cS, rfl⟩ := rd_form hS
  obtain ⟨xsI, h1, h2, h3⟩ := rd_reads hI
  obtain ⟨xsF, h4, h5, h6⟩ := rd_reads hF
  obtain ⟨xsS, h7, h8, h9⟩ := rd_reads hS
  exact ⟨A1, c1, gb, AP, cP, AF, cF, AI, cI, AS, cS, xs, xsI, xsF, xsS, rfl, hms, hch0, kb, hP, hlr, h1, h2, h3, h4, h5, h6, h7, h8, h9, hge, hbel⟩
/-- The changed document in memory. -/
structure Ed3 (w1 : World) (gb gd gI gF gS nI kI nF kF nS kS : Nat) (cs ds : Array Value) (xsI xsF xsS : List Value) (W : World) : Prop where
  gr : w1.grownBy W (some gb)
  blk : Blk W gb 54 cs
  box : Blk W gd 42 ds
  oI : W.ownsRow w1.heap.size 30 10 (.slice (some ⟨gI, 0, none⟩) nI kI) nI xsI
  oF : W.ownsRow w1.heap.size 62 4 (.slice (some ⟨gF, 0, none⟩) nF kF) nF xsF
  oS : W.ownsRow w1.heap.size 33 3 (.slice (some ⟨gS, 0, none⟩) nS kS) nS xsS
theorem own_base {w : World} {B e sz g n k : Nat} {xs : List Value} (h : w.ownsRow B e sz (.slice (some ⟨g, 0, none⟩) n k) n xs) : B ≤ g ∧ g < w.heap.size := h.lt g rfl
section
variable {w1 W W' : World} {gb gd gI gF gS nI kI nF kF nS kS : Nat} {cs ds : Array Value} {xsI xsF xsS : List Value}
theorem Ed3.below (h : Ed3 w1 gb gd gI gF gS nI kI nF kF nS kS cs ds xsI xsF xsS W) (k : Below W.heap.size W W') : Ed3 w1 gb gd gI gF gS nI kI nF kF nS kS cs ds xsI xsF xsS W' :=
  ⟨gr_below h.gr k, h.blk.below k h.blk.lt, h.box.below k h.box.lt, own_below h.oI k, own_below h.oF k, own_below h.oS k⟩
theorem Ed3.drew (h : Ed3 w1 gb gd gI gF gS nI kI nF kF nS kS cs ds xsI xsF xsS W) : Ed3 w1 gb gd gI gF gS nI kI nF kF nS kS cs ds xsI xsF xsS W.drew := h.below (Below.refl _ _).drew
theorem Ed3.alloc (h : Ed3 w1 gb gd gI gF gS nI kI nF kF nS kS cs ds xsI xsF xsS W) (o : Obj) : Ed3 w1 gb gd gI gF gS nI kI nF kF nS kS cs ds xsI xsF xsS (W.alloc o) := h.below ((Below.refl _ _).alloc (Nat.le_refl _) _)
theorem Ed3.putI (h : Ed3 w1 gb gd gI gF gS nI kI nF kF nS kS cs ds xsI xsF xsS W) (i : Nat) (u : Value) : Ed3 w1 gb gd gI gF gS nI kI nF kF nS kS cs ds (xsI.set i u) xsF xsS (W.setCell ⟨gI, i, none⟩ u) :=
  ⟨gr_set h.gr gI i u (.inr (own_base h.oI).1), h.blk.far (p := ⟨gI, i, none⟩) (fun e => blk_own_ne h.oI h.blk (by decide) (by rw [e]; rfl)) u, h.box.far (p := ⟨gI, i, none⟩) (fun e => blk_own_ne h.oI h.box (by decide) (by rw [e]; rfl)) u, (h.oI.stored i u).1,
    ownsRow_setCell_other (a := ⟨gI, i, none⟩) h.oF (fun e => own_ne h.oI h.oF (by decide) gI rfl e) u, ownsRow_setCell_other (a := ⟨gI, i, none⟩) h.oS (fun e => own_ne h.oI h.oS (by decide) gI rfl e) u⟩
theorem Ed3.putF (h : Ed3 w1 gb gd gI gF gS nI kI nF kF nS kS cs ds xsI xsF xsS W) (i : Nat) (u : Value) : Ed3 w1 gb gd gI gF gS nI kI nF kF nS kS cs ds xsI (xsF.set i u) xsS (W.setCell ⟨gF, i, none⟩ u) :=
  ⟨gr_set h.gr gF i u (.inr (own_base h.oF).1), h.blk.far (p := ⟨gF, i, none⟩) (fun e => blk_own_ne h.oF h.blk (by decide) (by rw [e]; rfl)) u, h.box.far (p := ⟨gF, i, none⟩) (fun e => blk_own_ne h.oF h.box (by decide) (by rw [e]; rfl)) u,
    ownsRow_setCell_other (a := ⟨gF, i, none⟩) h.oI (fun e => own_ne h.oF h.oI (by decide) gF rfl e) u, (h.oF.stored i u).1, ownsRow_setCell_other (a := ⟨gF, i, none⟩) h.oS (fun e => own_ne h.oF h.oS (by decide) gF rfl e) u⟩
theorem Ed3.putS (h : Ed3 w1 gb gd gI gF gS nI kI nF kF nS kS cs ds xsI xsF xsS W) (i : Nat) (u : Value) : Ed3 w1 gb gd gI gF gS nI kI nF kF nS kS cs ds xsI xsF (xsS.set i u) (W.setCell ⟨gS, i, none⟩ u) :=
  ⟨gr_set h.gr gS i u (.inr (own_base h.oS).1), h.blk.far (p := ⟨gS, i, none⟩) (fun e => blk_own_ne h.oS h.blk (by decide) (by rw [e]; rfl)) u, h.box.far (p := ⟨gS, i, none⟩) (fun e => blk_own_ne h.oS h.box (by decide) (by rw [e]; rfl)) u,
    ownsRow_setCell_other (a := ⟨gS, i, none⟩) h.oI (fun e => own_ne h.oS h.oI (by decide) gS rfl e) u, ownsRow_setCell_other (a := ⟨gS, i, none⟩) h.oF (fun e => own_ne h.oS h.oF (by decide) gS rfl e) u, (h.oS.stored i u).1⟩
end
/-- The three rows are copied. -/
theorem ed_start {w w1 V W : World} {c : ChorD} {r : List ChorD} {gb gd gI gF gS kI kF kS : Nat} {A1 AP AF AI AS : Option Addr} {c1 cP cF cI cS : Nat} {xs xsI xsF xsS : List Value} {ds : Array Value}
    (o : OpenD w w1 c r gb A1 AP AF AI AS c1 cP cF cI cS xs xsI xsF xsS) (hV : Below w1.heap.size w1 V) (hd : Blk V gd 42 ds) (hW : Below V.heap.size V W)
    (hI : W.ownsRow V.heap.size 30 10 (.slice (some ⟨gI, 0, none⟩) c.items.length kI) c.items.length xsI) (hF : W.ownsRow V.heap.size 62 4 (.slice (some ⟨gF, 0, none⟩) c.flows.length kF) c.flows.length xsF)
    (hS : W.ownsRow V.heap.size 33 3 (.slice (some ⟨gS, 0, none⟩) c.seqs.length kS) c.seqs.length xsS) :
    Ed3 w1 gb gd gI gF gS c.items.length kI c.flows.length kF c.seqs.length kS (chCs c.id (.slice AP c.parts.length cP) (.slice (some ⟨gF, 0, none⟩) c.flows.length kF) (.slice (some ⟨gI, 0, none⟩) c.items.length kI) (.slice (some ⟨gS, 0, none⟩) c.seqs.length kS) xs) ds xsI xsF xsS
      (((W.setCell ⟨gb, 3, none⟩ (.slice (some ⟨gI, 0, none⟩) c.items.length kI)).setCell ⟨gb, 2, none⟩ (.slice (some ⟨gF, 0, none⟩) c.flows.length kF)).setCell ⟨gb, 4, none⟩ (.slice (some ⟨gS, 0, none⟩) c.seqs.length kS)) := by
  have hb1 : Below w1.heap.size w1 W := hV.trans (hW.mono hV.size)
  have kb := o.blk.below hb1 o.blk.lt
  have kd := hd.below hW hd.lt
  have nd : gd ≠ gb := blk_ne kd kb (by decide)
  have bI := own_mono hI hV.size
  have bF := own_mono hF hV.size
  have bS := own_mono hS hV.size
  have nI := blk_own_ne bI kb (by decide)
  have nF := blk_own_ne bF kb (by decide)
  have nS := blk_own_ne bS kb (by decide)
  have k3 := ((kb.set_ 3 (.slice (some ⟨gI, 0, none⟩) c.items.length kI)).set_ 2 (.slice (some ⟨gF, 0, none⟩) c.flows.length kF)).set_ 4 (.slice (some ⟨gS, 0, none⟩) c.seqs.length kS)
  refine ⟨gr_set (gr_set (gr_set (grown_of_below hb1 _) gb 3 _ (.inl rfl)) gb 2 _ (.inl rfl)) gb 4 _ (.inl rfl), ?_, ?_, ?_, ?_, ?_⟩
  · simpa only [chCs, List.setIfInBounds_toArray, List.set_cons_zero, List.set_cons_succ] using k3
  · exact ((kd.far (p := ⟨gb, 3, none⟩) nd _).far (p := ⟨gb, 2, none⟩) nd _).far (p := ⟨gb, 4, none⟩) nd _
  · exact ownsRow_setCell_other (a := ⟨gb, 4, none⟩) (ownsRow_setCell_other (a := ⟨gb, 2, none⟩) (ownsRow_setCell_other (a := ⟨gb, 3, none⟩) bI nI _) nI _) nI _
  · exact ownsRow_setCell_other (a := ⟨gb, 4, none⟩) (ownsRow_setCell_other (a := ⟨gb, 2, none⟩) (ownsRow_setCell_other (a := ⟨gb, 3, none⟩) bF nF _) nF _) nF _
  · exact ownsRow_setCell_other (a := ⟨gb, 4, none⟩) (ownsRow_setCell_other (a := ⟨gb, 2, none⟩) (ownsRow_setCell_other (a := ⟨gb, 3, none⟩) bS nS _) nS _) nS _
/-- What the changed document reads as. -/
theorem ed_doc {w w1 W : World} {c : ChorD} {r : List ChorD} {gb gd gI gF gS kI kF kS nI nF nS : Nat} {A1 AP AF AI AS : Option Addr} {c1 cP cF cI cS : Nat} {xs xsI xsF xsS ysI ysF ysS : List Value} {ds : Array Value} {Is : List ItemD} {Fs : List FlowD} {Ss : List SeqD} {n : Nat}
    (o : OpenD w w1 c r gb A1 AP AF AI AS c1 cP cF cI cS xs xsI xsF xsS) (hn : n = r.length + 1) (hm : n ≤ maxLen)
    (h : Ed3 w1 gb gd gI gF gS nI kI nF kF nS kS (chCs c.id (.slice AP c.parts.length cP) (.slice (some ⟨gF, 0, none⟩) nF kF) (.slice (some ⟨gI, 0, none⟩) nI kI) (.slice (some ⟨gS, 0, none⟩) nS kS) xs) ds ysI ysF ysS W)
    (hI : RdL W (Is.flatMap itemC) ysI) (hF : RdL W (Fs.flatMap flowC) ysF) (hS : RdL W (Ss.flatMap seqC) ysS) (lI : Is.length = nI) (lF : Fs.length = nF) (lS : Ss.length = nS) :
    Rd W (msgsD gmsgsF) (.slice A1 4 c1) ∧ Rd W (chorsD (⟨c.id, c.parts, Fs, Is, Ss⟩ :: r)) (.slice (some ⟨gb, 0, none⟩) n n) := by
  refine ⟨gr_msgs h.gr o.blk o.msgs, ?_⟩
  have hr : RdL W (r.flatMap chorC) xs := RdL.grown h.gr o.blk _ _ (free_flat (fun x => free_chor _ (by decide) (by decide) (by decide) (by decide) (by decide) (by decide) x) r) o.rest
  refine chors_blk (c := ⟨c.id, c.parts, Fs, Is, Ss⟩) (xs := xs) (vP := .slice AP c.parts.length cP) (vF := .slice (some ⟨gF, 0, none⟩) nF kF) (vI := .slice (some ⟨gI, 0, none⟩) nI kI) (vS := .slice (some ⟨gS, 0, none⟩) nS kS) ?_ hn hm (gr_parts h.gr o.blk o.parts) (rd_ownR h.oF hF lF) (rd_ownR h.oI hI lI) (rd_ownR h.oS hS lS) hr
  have := h.blk
  simpa only [chCs, List.append_toArray, List.cons_append, List.nil_append] using this
/-- Rows of the document as it was, read in a later memory. -/
theorem OpenD.itemL {w w1 W : World} {c : ChorD} {r : List ChorD} {gb : Nat} {A1 AP AF AI AS : Option Addr} {c1 cP cF cI cS : Nat} {xs xsI xsF xsS : List Value} (o : OpenD w w1 c r gb A1 AP AF AI AS c1 cP cF cI cS xs xsI xsF xsS) (h : w1.grownBy W (some gb)) : RdL W (c.items.flatMap itemC) xsI := gr_itemL h o.blk o.lI
theorem OpenD.flowL {w w1 W : World} {c : ChorD} {r : List ChorD} {gb : Nat} {A1 AP AF AI AS : Option Addr} {c1 cP cF cI cS : Nat} {xs xsI xsF xsS : List Value} (o : OpenD w w1 c r gb A1 AP AF AI AS c1 cP cF cI cS xs xsI xsF xsS) (h : w1.grownBy W (some gb)) : RdL W (c.flows.flatMap flowC) xsF := gr_flowL h o.blk o.lF
theorem OpenD.seqL {w w1 W : World} {c : ChorD} {r : List ChorD} {gb : Nat} {A1 AP AF AI AS : Option Addr} {c1 cP cF cI cS : Nat} {xs xsI xsF xsS : List Value} (o : OpenD w w1 c r gb A1 AP AF AI AS c1 cP cF cI cS xs xsI xsF xsS) (h : w1.grownBy W (some gb)) : RdL W (c.seqs.flatMap seqC) xsS := gr_seqL h o.blk o.lS
end Go.Proofs.Ytljmghaplnkohaa
