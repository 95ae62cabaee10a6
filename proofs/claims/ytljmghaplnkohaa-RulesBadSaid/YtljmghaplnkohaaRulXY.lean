/- Memory of a document that RulesBad changes, A region that draws its order, with no tail: nothing is held, joined. -/
import Derived.Test.YtljmghaplnkohaaEdt
import Derived.Test.YtljmghaplnkohaaRulTU
import Derived.Test.YtljmghaplnkohaaRulD
import Derived.Deep.MidRow
import Derived.Test.YtljmghaplnkohaaReg
namespace Go.Proofs.Ytljmghaplnkohaa
open Go.RowKit

theorem ed_startB {w w1 V W : World} {c : ChorD} {r : List ChorD} {gb gd gI gF gS kI kF kS : Nat} {A1 AP AF AI AS : Option Addr} {c1 cP cF cI cS : Nat} {xs xsI xsF xsS : List Value} {ds : Array Value}
    (o : OpenD w w1 c r gb A1 AP AF AI AS c1 cP cF cI cS xs xsI xsF xsS) (hV : Below w1.heap.size w1 V) (hd : Blk V gd 42 ds) (hW : Below V.heap.size V W)
    (hI : W.ownsRow V.heap.size 30 10 (.slice (some ⟨gI, 0, none⟩) c.items.length kI) c.items.length xsI) (hF : W.ownsRow V.heap.size 62 4 (.slice (some ⟨gF, 0, none⟩) c.flows.length kF) c.flows.length xsF)
    (hS : W.ownsRow V.heap.size 33 3 (.slice (some ⟨gS, 0, none⟩) c.seqs.length kS) c.seqs.length xsS) :
    Ed3 w1 gb gd gI gF gS c.items.length kI c.flows.length kF c.seqs.length kS (chCs c.id (.slice AP c.parts.length cP) (.slice (some ⟨gF, 0, none⟩) c.flows.length kF) (.slice (some ⟨gI, 0, none⟩) c.items.length kI) (.slice (some ⟨gS, 0, none⟩) c.seqs.length kS) xs) ds xsI xsF xsS
      (((W.setCell ⟨gb, 3, none⟩ (.slice (some ⟨gI, 0, none⟩) c.items.length kI)).setCell ⟨gb, 4, none⟩ (.slice (some ⟨gS, 0, none⟩) c.seqs.length kS)).setCell ⟨gb, 2, none⟩ (.slice (some ⟨gF, 0, none⟩) c.flows.length kF)) := by
  have hb1 : Below w1.heap.size w1 W := hV.trans (hW.mono hV.size)
  have kb := o.blk.below hb1 o.blk.lt
  have kd := hd.below hW hd.lt
  have nd : gd ≠ gb := blk_ne kd kb (by decide)
  have bI := own_mono hI hV.size
  have bF := own_mono hF hV.size
  have bS := own_mono hS hV.size
  have nI := blk_own_ne bI kb (by decide)
  have nF := blk_own_ne bF kb (by decide)
  have nS := blk_own_ne bS kb (by decide)
  have k3 := ((kb.set_ 3 (.slice (some ⟨gI, 0, none⟩) c.items.length kI)).set_ 4 (.slice (some ⟨gS, 0, none⟩) c.seqs.length kS)).set_ 2 (.slice (some ⟨gF, 0, none⟩) c.flows.length kF)
  refine ⟨gr_set (gr_set (gr_set (grown_of_below hb1 _) gb 3 _ (.inl rfl)) gb 4 _ (.inl rfl)) gb 2 _ (.inl rfl), ?_, ?_, ?_, ?_, ?_⟩
  · simpa only [chCs, List.setIfInBounds_toArray, List.set_cons_zero, List.set_cons_succ] using k3
  · exact ((kd.far (p := ⟨gb, 3, none⟩) nd _).far (p := ⟨gb, 4, none⟩) nd _).far (p := ⟨gb, 2, none⟩) nd _
  · exact ownsRow_setCell_other (a := ⟨gb, 2, none⟩) (ownsRow_setCell_other (a := ⟨gb, 4, none⟩) (ownsRow_setCell_other (a := ⟨gb, 3, none⟩) bI nI _) nI _) nI _
  · exact ownsRow_setCell_other (a := ⟨gb, 2, none⟩) (ownsRow_setCell_other (a := ⟨gb, 4, none⟩) (ownsRow_setCell_other (a := ⟨gb, 3, none⟩) bF nF _) nF _) nF _
  · exact ownsRow_setCell_other (a := ⟨gb, 2, none⟩) (ownsRow_setCell_other (a := ⟨gb, 4, none⟩) (ownsRow_setCell_other (a := ⟨gb, 3, none⟩) bS nS _) nS _) nS _
section
variable {w1 W W' : World} {gb gd gI gF gS nI kI nF kF nS kS : Nat} {cs ds : Array Value} {xsI xsF xsS : List Value}
/-- A cell of the choreography is another. -/
theorem Ed3.putB (h : Ed3 w1 gb gd gI gF gS nI kI nF kF nS kS cs ds xsI xsF xsS W) (i : Nat) (u : Value) : Ed3 w1 gb gd gI gF gS nI kI nF kF nS kS (cs.setIfInBounds i u) ds xsI xsF xsS (W.setCell ⟨gb, i, none⟩ u) :=
  ⟨gr_set h.gr gb i u (.inl rfl), h.blk.set_ i u, h.box.far (p := ⟨gb, i, none⟩) (blk_ne h.box h.blk (by decide)) u,
    ownsRow_setCell_other (a := ⟨gb, i, none⟩) h.oI (blk_own_ne h.oI h.blk (by decide)) u, ownsRow_setCell_other (a := ⟨gb, i, none⟩) h.oF (blk_own_ne h.oF h.blk (by decide)) u, ownsRow_setCell_other (a := ⟨gb, i, none⟩) h.oS (blk_own_ne h.oS h.blk (by decide)) u⟩
theorem Ed3.putB4 {cid : ByteArray} {vP vF vI vS : Value} {xs : List Value} (h : Ed3 w1 gb gd gI gF gS nI kI nF kF nS kS (chCs cid vP vF vI vS xs) ds xsI xsF xsS W) (u : Value) : Ed3 w1 gb gd gI gF gS nI kI nF kF nS kS (chCs cid vP vF vI u xs) ds xsI xsF xsS (W.setCell ⟨gb, 4, none⟩ u) := by
  have k := h.putB 4 u
  simpa only [chCs, List.setIfInBounds_toArray, List.set_cons_zero, List.set_cons_succ] using k
theorem Ed3.putB3 {cid : ByteArray} {vP vF vI vS : Value} {xs : List Value} (h : Ed3 w1 gb gd gI gF gS nI kI nF kF nS kS (chCs cid vP vF vI vS xs) ds xsI xsF xsS W) (u : Value) : Ed3 w1 gb gd gI gF gS nI kI nF kF nS kS (chCs cid vP vF u vS xs) ds xsI xsF xsS (W.setCell ⟨gb, 3, none⟩ u) := by
  have k := h.putB 3 u
  simpa only [chCs, List.setIfInBounds_toArray, List.set_cons_zero, List.set_cons_succ] using k
/-- The row of what follows what is longer. -/
theorem Ed3.appS (h : Ed3 w1 gb gd gI gF gS nI kI nF kF nS kS cs ds xsI xsF xsS W) (hg : W.grownBy W' (some gS)) {gS' nS' kS' : Nat} {ys : List Value} (ho : W'.ownsRow w1.heap.size 33 3 (.slice (some ⟨gS', 0, none⟩) nS' kS') nS' ys) : Ed3 w1 gb gd gI gF gS' nI kI nF kF nS' kS' cs ds xsI xsF ys W' :=
  ⟨gr_more h.gr hg (fun q e => by cases e; exact .inr (own_base h.oS).1), h.blk.grown hg (Ne.symm (blk_own_ne h.oS h.blk (by decide))), h.box.grown hg (Ne.symm (blk_own_ne h.oS h.box (by decide))), h.oI.kept hg (own_own_ne h.oI h.oS (by decide)), h.oF.kept hg (own_own_ne h.oF h.oS (by decide)), ho⟩
/-- The row of items is longer. -/
theorem Ed3.appI (h : Ed3 w1 gb gd gI gF gS nI kI nF kF nS kS cs ds xsI xsF xsS W) (hg : W.grownBy W' (some gI)) {gI' nI' kI' : Nat} {ys : List Value} (ho : W'.ownsRow w1.heap.size 30 10 (.slice (some ⟨gI', 0, none⟩) nI' kI') nI' ys) : Ed3 w1 gb gd gI' gF gS nI' kI' nF kF nS kS cs ds ys xsF xsS W' :=
  ⟨gr_more h.gr hg (fun q e => by cases e; exact .inr (own_base h.oI).1), h.blk.grown hg (Ne.symm (blk_own_ne h.oI h.blk (by decide))), h.box.grown hg (Ne.symm (blk_own_ne h.oI h.box (by decide))), ho, h.oF.kept hg (own_own_ne h.oF h.oI (by decide)), h.oS.kept hg (own_own_ne h.oS h.oI (by decide))⟩
end
theorem Ed3.cells {w1 W : World} {gb gd gI gF gS nI kI nF kF nS kS : Nat} {cid : ByteArray} {vP vF vI vS d0 d1 : Value} {xs xsI xsF xsS : List Value} (h : Ed3 w1 gb gd gI gF gS nI kI nF kF nS kS (chCs cid vP vF vI vS xs) #[d0, d1] xsI xsF xsS W) : ∀ U, Below W.heap.size W U →
    U.cell? ⟨gd, 0, none⟩ = some d0 ∧ U.cell? ⟨gd, 1, none⟩ = some d1 ∧ U.cell? ⟨gb, 0, none⟩ = some (.string cid) ∧ U.cell? ⟨gb, 1, none⟩ = some vP ∧ U.cell? ⟨gb, 2, none⟩ = some vF ∧ U.cell? ⟨gb, 3, none⟩ = some vI ∧ U.cell? ⟨gb, 4, none⟩ = some vS := fun U hU => by
  have kd := h.box.below hU h.box.lt
  have kb := h.blk.below hU h.blk.lt
  exact ⟨kd.cell 0, kd.cell 1, kb.cell 0, kb.cell 1, kb.cell 2, kb.cell 3, kb.cell 4⟩
/-- What the two checks tell of a changed document. -/
theorem bad_ed {w w1 W : World} {c : ChorD} {gb gd gI gF gS kI kF kS nI nF nS : Nat} {A3 AP AF AI AS : Option Addr} {c3 cP cF cI cS : Nat} {xs xsI xsF xsS ysI ysS : List Value} {ds : Array Value} {Is : List ItemD} {Ss : List SeqD} {r : Int} {id : ByteArray}
    (o : OpenD w w1 c [] gb A3 AP AF AI AS c3 cP cF cI cS xs xsI xsF xsS) (h : Ed3 w1 gb gd gI gF gS nI kI nF kF nS kS (chCs c.id (.slice AP c.parts.length cP) (.slice (some ⟨gF, 0, none⟩) nF kF) (.slice (some ⟨gI, 0, none⟩) nI kI) (.slice (some ⟨gS, 0, none⟩) nS kS) xs) ds ysI xsF ysS W)
    (hI : RdL W (Is.flatMap itemC) ysI) (hS : RdL W (Ss.flatMap seqC) ysS) (lI : Is.length = nI) (lF : c.flows.length = nF) (lS : Ss.length = nS) (hB : BadR (withI c Is Ss) r id) :
    ∀ U, Below W.heap.size W U → (Calls Try.prog 29 #[.agg #[.slice A3 4 c3, .slice (some ⟨gb, 0, none⟩) 1 1]] U fun e w' => e = .returned (.tuple #[.int .i64 r, .string id, .int .i64 9]) ∧ Below U.heap.size U w') ∧ (Calls Try.prog 30 #[.agg #[.slice A3 4 c3, .slice (some ⟨gb, 0, none⟩) 1 1], .agg #[.string c.id, .slice AP c.parts.length cP, .slice (some ⟨gF, 0, none⟩) nF kF, .slice (some ⟨gI, 0, none⟩) nI kI, .slice (some ⟨gS, 0, none⟩) nS kS]] U fun e w' => e = .returned (.tuple #[.int .i64 r, .string id]) ∧ Below U.heap.size U w') := by
  subst lI
  subst lF
  subst lS
  intro U hU
  obtain ⟨h1, h2⟩ := ed_doc (n := 1) o rfl (by decide) h hI (o.flowL h.gr) hS rfl rfl rfl
  have hlv : ∀ AP cP AF cF AI cI AS cS, LvOk ⟨gmsgsF, [withI c Is Ss]⟩ (withI c Is Ss) A3 (some ⟨gb, 0, none⟩) c3 1 AP cP AF cF AI cI AS cS Is Ss := fun AP cP AF cF AI cI AS cS => by
    have l1 : Is.length ≤ 1000 := hB.lens.1
    have l2 : Ss.length ≤ 1000 := hB.lens.2
    exact level_step _ _ (by omega) (by omega) (fun y hy e => absurd e (hB.no7 y hy))
  have r := ruleCheck_any (w := U) (d := ⟨gmsgsF, [withI c Is Ss]⟩) (A1 := A3) (c1 := c3) (B1 := some ⟨gb, 0, none⟩) (k1 := 1) (fun z hz AP cP AF cF AI cI AS cS => by rw [List.mem_singleton.1 hz]; exact hlv AP cP AF cF AI cI AS cS) (Rd.below hU _ _ h1) (Rd.below hU _ _ h2) hB.fit
  have k := ruleChor_any (w := U) (d := ⟨gmsgsF, [withI c Is Ss]⟩) (c := withI c Is Ss) (A1 := A3) (c1 := c3) (B1 := some ⟨gb, 0, none⟩) (k1 := 1) (AP := AP) (cP := cP) (AF := some ⟨gF, 0, none⟩) (cF := kF) (AI := some ⟨gI, 0, none⟩) (cI := kI) (AS := some ⟨gS, 0, none⟩) (cS := kS) (hlv _ _ _ _ _ _ _ _) (Rd.below hU _ _ h1) (Rd.below hU _ _ h2)
    ⟨Rd.below hU _ _ (gr_parts h.gr o.blk o.parts), Rd.below hU _ _ (rd_ownR h.oF (o.flowL h.gr) rfl), Rd.below hU _ _ (rd_ownR h.oI hI rfl), Rd.below hU _ _ (rd_ownR h.oS hS rfl)⟩
  rw [hB.ck] at r
  rw [hB.ch] at k
  exact ⟨r, k⟩
/-- An item's cells: none; a new one's. -/
def zIt : List Value := [.int .i64 0, .string ⟨#[]⟩, .string ⟨#[]⟩, .slice none 0 0, .slice none 0 0, .bool false, .string ⟨#[]⟩, .slice none 0 0, .slice none 0 0, .slice none 0 0]
def itV (k : Int) (b : UInt8) : List Value := [.int .i64 k, .string ⟨#[122, b]⟩, .string ⟨#[]⟩, .slice none 0 0, .slice none 0 0, .bool false, .string ⟨#[]⟩, .slice none 0 0, .slice none 0 0, .slice none 0 0]
/-- A changed document, and what the two checks tell of it. -/
def BadEnd (w1 : World) (c : ChorD) (gb gd gF kF : Nat) (A3 : Option Addr) (c3 : Nat) (AP : Option Addr) (cP : Nat) (xs xsF : List Value) (gI gS nI kI nS kS : Nat) (r : Int) (id : ByteArray) (W : World) : Prop :=
  (∃ ysI ysS, Ed3 w1 gb gd gI gF gS nI kI c.flows.length kF nS kS (chCs c.id (.slice AP c.parts.length cP) (.slice (some ⟨gF, 0, none⟩) c.flows.length kF) (.slice (some ⟨gI, 0, none⟩) nI kI) (.slice (some ⟨gS, 0, none⟩) nS kS) xs) #[.slice A3 4 c3, .slice (some ⟨gb, 0, none⟩) 1 1] ysI xsF ysS W) ∧
    ∀ U, Below W.heap.size W U → (Calls Try.prog 29 #[.agg #[.slice A3 4 c3, .slice (some ⟨gb, 0, none⟩) 1 1]] U fun e w' => e = .returned (.tuple #[.int .i64 r, .string id, .int .i64 9]) ∧ Below U.heap.size U w') ∧ (Calls Try.prog 30 #[.agg #[.slice A3 4 c3, .slice (some ⟨gb, 0, none⟩) 1 1], .agg #[.string c.id, .slice AP c.parts.length cP, .slice (some ⟨gF, 0, none⟩) c.flows.length kF, .slice (some ⟨gI, 0, none⟩) nI kI, .slice (some ⟨gS, 0, none⟩) nS kS]] U fun e w' => e = .returned (.tuple #[.int .i64 r, .string id]) ∧ Below U.heap.size U w')
theorem bad_end {w w1 W : World} {c : ChorD} {gb gd gI gF gS kI kF kS nI nS : Nat} {A3 AP AF AI AS : Option Addr} {c3 cP cF cI cS : Nat} {xs xsI xsF xsS ysI ysS : List Value} {Is : List ItemD} {Ss : List SeqD} {r : Int} {id : ByteArray}
    (o : OpenD w w1 c [] gb A3 AP AF AI AS c3 cP cF cI cS xs xsI xsF xsS) (h : Ed3 w1 gb gd gI gF gS nI kI c.flows.length kF nS kS (chCs c.id (.slice AP c.parts.length cP) (.slice (some ⟨gF, 0, none⟩) c.flows.length kF) (.slice (some ⟨gI, 0, none⟩) nI kI) (.slice (some ⟨gS, 0, none⟩) nS kS) xs) #[.slice A3 4 c3, .slice (some ⟨gb, 0, none⟩) 1 1] ysI xsF ysS W)
    (hI : RdL W (Is.flatMap itemC) ysI) (hS : RdL W (Ss.flatMap seqC) ysS) (lI : Is.length = nI) (lS : Ss.length = nS) (hB : BadR (withI c Is Ss) r id) : BadEnd w1 c gb gd gF kF A3 c3 AP cP xs xsF gI gS nI kI nS kS r id W :=
  ⟨⟨ysI, ysS, h⟩, bad_ed o h hI hS lI rfl lS hB⟩
theorem own_new {W : World} {B e g n m k : Nat} {xs ys : List Value} (h : W.ownsRow B e 10 (.slice (some ⟨g, 0, none⟩) (n + m) k) (n + m) (xs ++ ys)) (hx : xs.length = n * 10) (i : Nat) {u : Value} (hu : ys[i]? = some u) : W.cell? ⟨g, n * 10 + i, none⟩ = some u := by
  have hl := h.1
  rw [List.length_append, hx] at hl
  obtain ⟨hi, _⟩ := List.getElem?_eq_some_iff.1 hu
  rw [h.cellAt _ (by omega), List.getElem?_append_right (by omega), hx, Nat.add_sub_cancel_left]
  exact hu
def setsL : List Value → Nat → List Value → List Value
  | ys, _, [] => ys
  | ys, o, v :: r => setsL (ys.set o v) (o + 1) r
theorem Ed3.setsI {w1 : World} {gb gd gI gF gS nI kI nF kF nS kS : Nat} {cs ds : Array Value} {xsF xsS : List Value} : ∀ (vs : List Value) (o : Nat) {W : World} {ys : List Value}, Ed3 w1 gb gd gI gF gS nI kI nF kF nS kS cs ds ys xsF xsS W → Ed3 w1 gb gd gI gF gS nI kI nF kF nS kS cs ds (setsL ys o vs) xsF xsS (W.setCells gI o vs)
  | [], _, _, _, h => h
  | v :: r, o, _, _, h => Ed3.setsI r (o + 1) (h.putI o v)
theorem sets_at : ∀ (vs z : List Value) (xs t : List Value), z.length = vs.length → setsL (xs ++ (z ++ t)) xs.length vs = xs ++ (vs ++ t)
  | [], z, xs, t, h => by rw [List.length_eq_zero_iff.1 h]; rfl
  | v :: r, [], _, _, h => by cases h
  | v :: r, z :: zs, xs, t, h => by
    rw [setsL, List.set_append_right _ _ (Nat.le_refl _), Nat.sub_self, List.cons_append, List.set_cons_zero]
    have := sets_at r zs (xs ++ [v]) t (by simpa using h)
    rw [List.length_append, List.length_singleton, List.append_assoc, List.append_assoc] at this
    exact this
theorem Ed3.writeI {w1 W : World} {gb gd gI gF gS nI kI nF kF nS kS o : Nat} {cs ds : Array Value} {xsF xsS xs a z t vs : List Value} (h : Ed3 w1 gb gd gI gF gS nI kI nF kF nS kS cs ds (xs ++ (a ++ (z ++ t))) xsF xsS W) (ho : o = xs.length + a.length) (hz : z.length = vs.length) : Ed3 w1 gb gd gI gF gS nI kI nF kF nS kS cs ds (xs ++ (a ++ (vs ++ t))) xsF xsS (W.setCells gI o vs) := by
  subst ho
  have k := h.setsI vs (xs.length + a.length)
  rw [← List.append_assoc, ← List.length_append, sets_at vs z (xs ++ a) t hz, List.append_assoc, List.length_append] at k
  exact k
theorem there_row {W : World} {B e g n k : Nat} {ys : List Value} (h : W.ownsRow B e 10 (.slice (some ⟨g, 0, none⟩) n k) n ys) {o m : Nat} (ho : o + m ≤ n * 10) : W.there g o m := fun j hj => by
  have hl := h.1
  refine ⟨?_, h.frozenAt _⟩
  rw [h.cellAt _ (by omega), List.getElem?_eq_getElem (by omega)]
  rfl
theorem wantedB (o : Oper) (h : o.guard = none) : ∀ z, Region.wanted o z = true := fun z => by simp [Region.wanted, h]
theorem am12 (a : Int) : ∃ q : Nat, (bits BinOp.and IntKind.i64 a 15).tmod 12 = (q : Int) ∧ q < 12 := by
  have h15 := am15 a
  refine ⟨((bits BinOp.and IntKind.i64 a 15).tmod 12).toNat, (Int.toNat_of_nonneg (Int.tmod_nonneg _ h15.1)).symm, ?_⟩
  have := Int.tmod_lt_of_pos (bits BinOp.and IntKind.i64 a 15) (show (0 : Int) < 12 by decide)
  omega
end Go.Proofs.Ytljmghaplnkohaa
namespace Go.Proofs.Ytljmghaplnkohaa
open Go.RowKit

section
variable {P : Program} {Q : Exit → Act → World → Prop} {md : Region.Mode}
abbrev anyT : World → Prop := fun _ => True
def mayB (md : Region.Mode) (ops : Array Oper) (listed : Array Bool) (i : Nat) : Bool :=
  Region.noSelect ops && Region.free md ops listed i && (Region.ready md ops listed).contains i
theorem hd_take (i : Nat) {l : List Oper} {oi : Oper} {v : Value} {f : Nat} {listed : Array Bool} {a : Act} {w : World} (hi : opAt l i = some oi) (hB : mayB md l.toArray listed i = true)
    (hQ : ∀ c a w, Q (.panic c) (a.put oi.dst v) w → Q (.panic c) a w) (hy : YieldsIf P l.toArray anyT oi v a)
    (h : wpAnyH P md l.toArray Q anyT f (listed.setIfInBounds i true) (a.put oi.dst v) w) : wpAnyH P md l.toArray Q anyT (f + 1) listed a w := by
  simp only [mayB, Bool.and_eq_true] at hB
  obtain ⟨⟨h1, h2⟩, h3⟩ := hB
  exact wpAnyH_take (by rw [← opAt_spec]; exact hi) h1 h2 h3 hQ hy trivial h
def allHd (P : Program) (md : Region.Mode) (ops : Array Oper) (Q : Exit → Act → World → Prop) (f : Nat) (listed : Array Bool) (a : Act) (w : World) (rs : List Nat) : Prop :=
  ∀ i ∈ rs, wpOp P ops Q i (fun a' w' => anyT w' ∧ wpAnyH P md ops Q anyT f (listed.setIfInBounds i true) a' w') a w
theorem hd_all (rs : List Nat) {l : List Oper} {f : Nat} {listed : Array Bool} {a : Act} {w : World} (hr : (Region.ready md l.toArray listed == rs && !rs.isEmpty) = true)
    (h : allHd P md l.toArray Q f listed a w rs) : wpAnyH P md l.toArray Q anyT (f + 1) listed a w := by
  simp only [Bool.and_eq_true, beq_iff_eq, Bool.not_eq_true'] at hr
  exact wpAnyH_all hr.1 (fun e => by rw [e] at hr; simp at hr) h
theorem allHd.nil {ops : Array Oper} {f : Nat} {listed : Array Bool} {a : Act} {w : World} : allHd P md ops Q f listed a w [] := fun _ h => by cases h
theorem hd_cons {i f : Nat} {l : List Oper} {o : Oper} {rs : List Nat} {listed : Array Bool} {a : Act} {w : World} (ho : opAt l i = some o)
    (h : ∀ K : Act → World → Prop, Hid (∀ a' w', wpAnyH P md l.toArray Q anyT f (listed.setIfInBounds i true) a' w' → K a' w') →
      if Region.wanted o (yielded l.toArray a.tmps) = true then o.wp P a w K Q else K (a.put o.dst undef) w)
    (hs : allHd P md l.toArray Q f listed a w rs) : allHd P md l.toArray Q f listed a w (i :: rs) := fun j hj => by
  rcases List.mem_cons.1 hj with rfl | hj
  · have := h (fun a' w' => anyT w' ∧ wpAnyH P md l.toArray Q anyT f (listed.setIfInBounds j true) a' w') (Lib.hid (fun a' w' hK => ⟨trivial, hK⟩))
    have ho' : l.toArray[j]? = some o := by rw [← opAt_spec]; exact ho
    unfold wpOp
    simp only [ho']
    split at this
    · rename_i hw
      rw [if_pos hw]
      exact .inl this
    · rename_i hw
      rw [if_neg hw]
      exact this
  · exact hs j hj
theorem hd_done {listed : Array Bool} {a : Act} {w : World} {l : List Oper} (hr : (Region.ready md l.toArray listed == []) = true) (h : wpList P l.toArray Q [] a w) : wpAnyH P md l.toArray Q anyT 0 listed a w :=
  wpAnyH_done (by simpa using hr) h 0
theorem hd_region (n : Nat) {id : Nat} {l : List Oper} {a : Act} {w : World} (hm : P.follows .mixedOrders = true) (hn : l.toArray.size = n)
    (h : wpAnyH P .any l.toArray Q anyT n (Array.replicate l.toArray.size false) a w.drew) : (Code.region id l.toArray true).wp P Q a w := by
  subst hn
  exact wp_region_held hm h
/-- Whatever order it takes; S holds behind each operation ahead of number b, and nothing is held from b on. -/
def wpHS (P : Program) (md : Region.Mode) (ops : Array Oper) (Q : Exit → Act → World → Prop) (S : World → Prop) (b : Nat) : Nat → Array Bool → Act → World → Prop
  | 0, _, _, _ => False
  | f + 1, listed, a, w =>
    Region.ready md ops listed ≠ [] ∧ ∀ i ∈ Region.ready md ops listed, wpOp P ops Q i (fun a' w' => (i = b → wpAny P md ops Q f (listed.setIfInBounds i true) a' w') ∧ (i ≠ b → S w' ∧ wpHS P md ops Q S b f (listed.setIfInBounds i true) a' w')) a w
variable {S : World → Prop} {ops : Array Oper} {b : Nat}
theorem wpAny_of_HS : ∀ (f : Nat) (listed : Array Bool) (a : Act) (w : World), wpHS P md ops Q S b f listed a w → wpAny P md ops Q f listed a w
  | 0, _, _, _, h => h.elim
  | f + 1, listed, a, w, h => ⟨fun h0 => absurd h0 h.1, fun i hi => wpOp_mono (fun a' w' h' => by
      by_cases hib : i = b
      · exact h'.1 hib
      · exact wpAny_of_HS f _ a' w' (h'.2 hib).2) (h.2 i hi)⟩
theorem wpHS_first {i : Nat} {oi : Oper} {v : Value} (hi : ops[i]? = some oi) (hsel : ∀ (j : Nat) (o : Oper) cs b, ops[j]? = some o → o.op ≠ .select cs b)
    (hQ : ∀ c a w, Q (.panic c) (a.put oi.dst v) w → Q (.panic c) a w) (hib : i ≠ b) (hwait : Region.waitsFor md ops b i = true) :
    ∀ (f : Nat) (listed : Array Bool) (a : Act) (w : World),
      (∀ j oj, ops[j]? = some oj → j ≠ i → listed.getD j true = false → (∀ e ∈ oj.after, Region.binds md e = true → e.on ≠ i) → oi.apart ops oj = true) →
      i ∈ Region.ready md ops listed → YieldsIf P ops S oi v a → S w →
      wpHS P md ops Q S b f (listed.setIfInBounds i true) (a.put oi.dst v) w → wpHS P md ops Q S b (f + 1) listed a w := by
  intro f
  induction f with
  | zero => intro listed a w _ _ _ _ H; exact H.elim
  | succ f ih =>
    intro listed a w hfree hr hy hS H
    have hun := (mem_ready.1 hr).1
    refine ⟨fun h => (by rw [h] at hr; cases hr), fun j hj => ?_⟩
    by_cases hji : j = i
    · subst hji; exact hy.wpOp hi hS ⟨fun e => absurd e hib, fun _ => ⟨hS, H⟩⟩
    · obtain ⟨hjun, oj, hoj, hall⟩ := mem_ready.1 hj
      have hjb : j ≠ b := fun e => by
        subst e
        obtain ⟨ob, hob, e, he, hb, hon⟩ := Region.waitsFor_spec hwait
        have : oj = ob := Option.some.inj (hoj.symm.trans hob)
        subst this
        have h1 := hall e he hb
        rw [hon, getD_both hun] at h1
        cases h1
      have h1 := H.2 j (ready_mono hj hji)
      have hnot : ∀ e ∈ oj.after, Region.binds md e = true → e.on ≠ i := fun e he hb heq => by
        have h1 := hall e he hb
        rw [heq, getD_both hun] at h1
        cases h1
      have h2 := wpOp_putIf hoj (hfree j oj hoj hji hjun hnot) (fun cs b => hsel i oi cs b hi) (fun cs b => hsel j oj cs b hoj) hQ hy h1
      have hfree' : ∀ k ok, ops[k]? = some ok → k ≠ i → (listed.setIfInBounds j true).getD k true = false →
          (∀ e ∈ ok.after, Region.binds md e = true → e.on ≠ i) → oi.apart ops ok = true := fun k ok hk hki hun hno => by
        refine hfree k ok hk hki ?_ hno
        by_cases hjk : j = k
        · subst hjk; exact hjun
        · rw [getD_set_ne true hjk] at hun; exact hun
      refine wpOp_mono (fun a' w' h3 => ⟨fun e => absurd e hjb, fun _ => ⟨(h3.2.2 hjb).1, ih (listed.setIfInBounds j true) a' w' hfree' (ready_mono hr (Ne.symm hji)) h3.1 (h3.2.2 hjb).1 ?_⟩⟩) h2
      rw [Array.setIfInBounds_comm _ _ hji]
      exact (h3.2.2 hjb).2
def hsB (md : Region.Mode) (ops : Array Oper) (b : Nat) (listed : Array Bool) (i : Nat) : Bool :=
  mayB md ops listed i && decide (i ≠ b) && Region.waitsFor md ops b i
theorem hs_take (i : Nat) {l : List Oper} {oi : Oper} {v : Value} {f : Nat} {listed : Array Bool} {a : Act} {w : World} (hi : opAt l i = some oi) (hB : hsB md l.toArray b listed i = true)
    (hQ : ∀ c a w, Q (.panic c) (a.put oi.dst v) w → Q (.panic c) a w) (hy : YieldsIf P l.toArray S oi v a) (hS : S w)
    (h : wpHS P md l.toArray Q S b f (listed.setIfInBounds i true) (a.put oi.dst v) w) : wpHS P md l.toArray Q S b (f + 1) listed a w := by
  simp only [hsB, mayB, Bool.and_eq_true, decide_eq_true_eq] at hB
  obtain ⟨⟨⟨⟨h1, h2⟩, h3⟩, h4⟩, h5⟩ := hB
  have hi' : l.toArray[i]? = some oi := by rw [← opAt_spec]; exact hi
  exact wpHS_first hi' (Region.noSelect_spec h1) hQ h4 h5 f listed a w (Region.free_spec hi' h2) (by simpa using h3) hy hS h
theorem yields_any {o : Oper} {v : Value} {a : Act} (h : YieldsIf P ops anyT o v a) : Yields P ops o v a := h.imp (fun ⟨hw, hv⟩ => ⟨hw, fun w => hv w trivial⟩) id
/-- What yields in whatever world is taken first, though b does not wait for it. -/
theorem wpHS_free {i : Nat} {oi : Oper} {v : Value} (hi : ops[i]? = some oi) (hsel : ∀ (j : Nat) (o : Oper) cs b, ops[j]? = some o → o.op ≠ .select cs b)
    (hQ : ∀ c a w, Q (.panic c) (a.put oi.dst v) w → Q (.panic c) a w) (hib : i ≠ b) :
    ∀ (f : Nat) (listed : Array Bool) (a : Act) (w : World),
      (∀ j oj, ops[j]? = some oj → j ≠ i → listed.getD j true = false → (∀ e ∈ oj.after, Region.binds md e = true → e.on ≠ i) → oi.apart ops oj = true) →
      i ∈ Region.ready md ops listed → YieldsIf P ops anyT oi v a → S w →
      wpHS P md ops Q S b f (listed.setIfInBounds i true) (a.put oi.dst v) w → wpHS P md ops Q S b (f + 1) listed a w := by
  intro f
  induction f with
  | zero => intro listed a w _ _ _ _ H; exact H.elim
  | succ f ih =>
    intro listed a w hfree hr hy hS H
    have hun := (mem_ready.1 hr).1
    refine ⟨fun h => (by rw [h] at hr; cases hr), fun j hj => ?_⟩
    by_cases hji : j = i
    · subst hji; exact hy.wpOp hi trivial ⟨fun e => absurd e hib, fun _ => ⟨hS, H⟩⟩
    · obtain ⟨hjun, oj, hoj, hall⟩ := mem_ready.1 hj
      have h1 := H.2 j (ready_mono hj hji)
      have hnot : ∀ e ∈ oj.after, Region.binds md e = true → e.on ≠ i := fun e he hb heq => by
        have h1 := hall e he hb
        rw [heq, getD_both hun] at h1
        cases h1
      have h2 := wpOp_putIf hoj (hfree j oj hoj hji hjun hnot) (fun cs b => hsel i oi cs b hi) (fun cs b => hsel j oj cs b hoj) hQ hy h1
      have hfree' : ∀ k ok, ops[k]? = some ok → k ≠ i → (listed.setIfInBounds j true).getD k true = false →
          (∀ e ∈ ok.after, Region.binds md e = true → e.on ≠ i) → oi.apart ops ok = true := fun k ok hk hki hun hno => by
        refine hfree k ok hk hki ?_ hno
        by_cases hjk : j = k
        · subst hjk; exact hjun
        · rw [getD_set_ne true hjk] at hun; exact hun
      refine wpOp_mono (fun a' w' h3 => ⟨fun e => wpAny_first hi hsel hQ f _ a' w' hfree' (ready_mono hr (Ne.symm hji)) (yields_any h3.1) ?_, fun e => ⟨(h3.2.2 e).1, ih (listed.setIfInBounds j true) a' w' hfree' (ready_mono hr (Ne.symm hji)) h3.1 (h3.2.2 e).1 ?_⟩⟩) h2
      · rw [Array.setIfInBounds_comm _ _ hji]
        exact h3.2.1 e
      · rw [Array.setIfInBounds_comm _ _ hji]
        exact (h3.2.2 e).2
theorem hs_free (i : Nat) {l : List Oper} {oi : Oper} {v : Value} {f : Nat} {listed : Array Bool} {a : Act} {w : World} (hi : opAt l i = some oi) (hB : (mayB md l.toArray listed i && decide (i ≠ b)) = true)
    (hQ : ∀ c a w, Q (.panic c) (a.put oi.dst v) w → Q (.panic c) a w) (hy : YieldsIf P l.toArray anyT oi v a) (hS : S w)
    (h : wpHS P md l.toArray Q S b f (listed.setIfInBounds i true) (a.put oi.dst v) w) : wpHS P md l.toArray Q S b (f + 1) listed a w := by
  simp only [mayB, Bool.and_eq_true, decide_eq_true_eq] at hB
  obtain ⟨⟨⟨h1, h2⟩, h3⟩, h4⟩ := hB
  have hi' : l.toArray[i]? = some oi := by rw [← opAt_spec]; exact hi
  exact wpHS_free hi' (Region.noSelect_spec h1) hQ h4 f listed a w (Region.free_spec hi' h2) (by simpa using h3) hy hS h
theorem hs_one (i : Nat) {l : List Oper} {o : Oper} {f : Nat} {listed : Array Bool} {a : Act} {w : World} (ho : opAt l i = some o) (hr : (Region.ready md l.toArray listed == [i] && decide (i ≠ b)) = true)
    (h : ∀ K : Act → World → Prop, Hid (∀ a' w', S w' → (S w' → wpHS P md l.toArray Q S b f (listed.setIfInBounds i true) a' w') → K a' w') →
      if Region.wanted o (yielded l.toArray a.tmps) = true then o.wp P a w K Q else K (a.put o.dst undef) w) : wpHS P md l.toArray Q S b (f + 1) listed a w := by
  simp only [Bool.and_eq_true, beq_iff_eq, decide_eq_true_eq] at hr
  refine ⟨by rw [hr.1]; simp, fun j hj => ?_⟩
  rw [hr.1] at hj
  have : j = i := by simpa using hj
  subst this
  have := h (fun a' w' => (j = b → wpAny P md l.toArray Q f (listed.setIfInBounds j true) a' w') ∧ (j ≠ b → S w' ∧ wpHS P md l.toArray Q S b f (listed.setIfInBounds j true) a' w')) (Lib.hid fun a' w' hS hK => ⟨fun e => absurd e hr.2, fun _ => ⟨hS, hK hS⟩⟩)
  have ho' : l.toArray[j]? = some o := by rw [← opAt_spec]; exact ho
  unfold wpOp
  simp only [ho']
  split at this
  · rename_i hw
    rw [if_pos hw]
    exact .inl this
  · rename_i hw
    rw [if_neg hw]
    exact this
theorem hs_end {l : List Oper} {o : Oper} {f : Nat} {listed : Array Bool} {a : Act} {w : World} (ho : opAt l b = some o) (hr : (Region.ready md l.toArray listed == [b]) = true)
    (h : ∀ K : Act → World → Prop, Hid (∀ a' w', wpAnyH P md l.toArray Q anyT f (listed.setIfInBounds b true) a' w' → K a' w') →
      if Region.wanted o (yielded l.toArray a.tmps) = true then o.wp P a w K Q else K (a.put o.dst undef) w) : wpHS P md l.toArray Q S b (f + 1) listed a w := by
  simp only [beq_iff_eq] at hr
  refine ⟨by rw [hr]; simp, fun j hj => ?_⟩
  rw [hr] at hj
  have : j = b := by simpa using hj
  subst this
  have := h (fun a' w' => (True → wpAny P md l.toArray Q f (listed.setIfInBounds j true) a' w') ∧ (j ≠ j → S w' ∧ wpHS P md l.toArray Q S j f (listed.setIfInBounds j true) a' w')) (Lib.hid fun a' w' hK => ⟨fun _ => wpAny_of_held f _ a' w' hK, fun e => absurd rfl e⟩)
  have ho' : l.toArray[j]? = some o := by rw [← opAt_spec]; exact ho
  unfold wpOp
  simp only [ho']
  split at this
  · rename_i hw
    rw [if_pos hw]
    exact .inl this
  · rename_i hw
    rw [if_neg hw]
    exact this
theorem hs_region (n b : Nat) (S : World → Prop) {id : Nat} {l : List Oper} {a : Act} {w : World} (hm : P.follows .mixedOrders = true) (hn : l.toArray.size = n) (hS : S w.drew)
    (h : S w.drew → wpHS P .any l.toArray Q S b n (Array.replicate l.toArray.size false) a w.drew) : (Code.region id l.toArray true).wp P Q a w := by
  subst hn
  exact wp_region_any hm (wpAny_of_HS _ _ _ _ (h hS))
end
end Go.Proofs.Ytljmghaplnkohaa
