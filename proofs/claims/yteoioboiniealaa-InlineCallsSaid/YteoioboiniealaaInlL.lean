/- inline.Chor at documents that are written out; the law's awake. -/
import Derived.Test.YteoioboiniealaaInlK
namespace Go.Proofs.Yteoioboiniealaa
open Go.RowKit

mutual
/-- Texts and lists within are short enough, as a Bool. -/
def smallIB : ItemD → Bool
  | ⟨_, id, _, parts, flows, _, _, maps, items, seqs⟩ => decide (id.size ≤ 1000) && decide (parts.length ≤ 1000000) && decide (flows.length ≤ 1000000) && flows.all (fun f => decide (f.size ≤ 1000)) && decide (maps.length ≤ 1000000) && decide (items.length ≤ 1000000) && smallLB items && decide (seqs.length ≤ 1000000) && seqs.all (fun s => decide (s.id.size ≤ 1000) && decide (s.src.size ≤ 1000) && decide (s.dst.size ≤ 1000))
def smallLB : List ItemD → Bool
  | [] => true
  | x :: l => smallIB x && smallLB l
end
theorem seqB_spec {l : List SeqD} (h : (l.all fun s => decide (s.id.size ≤ 1000) && decide (s.src.size ≤ 1000) && decide (s.dst.size ≤ 1000)) = true) : ∀ s ∈ l, SmallS s := fun s hs => by
  have := List.all_eq_true.1 h s hs
  simp only [Bool.and_eq_true, decide_eq_true_eq] at this
  exact ⟨this.1.1, this.1.2, this.2⟩
mutual
theorem smallIB_spec : ∀ x : ItemD, smallIB x = true → smallI x
  | ⟨_, id, _, parts, flows, _, _, maps, items, seqs⟩, h => by
    rw [smallIB] at h
    simp only [Bool.and_eq_true, decide_eq_true_eq] at h
    obtain ⟨⟨⟨⟨⟨⟨⟨⟨h1, h2⟩, h3⟩, h4⟩, h5⟩, h6⟩, h7⟩, h8⟩, h9⟩ := h
    unfold smallI
    exact ⟨h1, h2, h3, fun f hf => by simpa using List.all_eq_true.1 h4 f hf, h5, h6, smallLB_spec items h7, h8, seqB_spec h9⟩
theorem smallLB_spec : ∀ l : List ItemD, smallLB l = true → smallL l
  | [], _ => by unfold smallL; trivial
  | x :: l, h => by
    rw [smallLB] at h
    simp only [Bool.and_eq_true] at h
    unfold smallL
    exact ⟨smallIB_spec x h.1, smallLB_spec l h.2⟩
end
def smallCB (c : ChorD) : Bool := decide (c.flows.length ≤ 1000000) && c.flows.all (fun f => decide (f.id.size ≤ 1000)) && decide (c.items.length ≤ 1000000) && smallLB c.items && decide (c.seqs.length ≤ 1000000) && c.seqs.all (fun s => decide (s.id.size ≤ 1000) && decide (s.src.size ≤ 1000) && decide (s.dst.size ≤ 1000)) && decide (c.parts.length ≤ 1000000)
theorem smallCB_spec {c : ChorD} (h : smallCB c = true) : SmallC c ∧ c.parts.length ≤ 1000000 := by
  unfold smallCB at h
  simp only [Bool.and_eq_true, decide_eq_true_eq] at h
  obtain ⟨⟨⟨⟨⟨⟨h1, h2⟩, h3⟩, h4⟩, h5⟩, h6⟩, h7⟩ := h
  exact ⟨⟨h1, fun f hf => by simpa using List.all_eq_true.1 h2 f hf, h3, smallLB_spec _ h4, h5, seqB_spec h6⟩, h7⟩
def countB (d : DocD) (f : Nat) (id : ByteArray) : Bool := d.chors.all fun c => match itemsF d f ⟨#[]⟩ [] [id] c.items ⟨c.flows, 0, 0⟩ with
  | none => true
  | some r => decide (r.2.n ≤ 1000000) && decide (r.2.flows.length ≤ 1000000)
/-- inline.Chor at a document that is small. -/
theorem chor_small {d : DocD} (f : Nat) {id : ByteArray} {w : World} {vM vC : Value} {c : ChorD} {e : Int} (hM : Rd w (msgsD d.msgs) vM) (hC : Rd w (chorsD d.chors) vC) (hF : chorF d f id = some (c, e)) (hs : d.chors.all smallCB = true) (hn : countB d f id = true) (hf : f ≤ 400) :
    Calls Try.prog 17 #[.agg #[vM, vC], .string id] w (InlEnd w c e) := by
  have h1 : ∀ c ∈ d.chors, SmallC c ∧ c.parts.length ≤ 1000000 := fun c hc => smallCB_spec (List.all_eq_true.1 hs c hc)
  refine chor_walk d f (items_all d (fun c hc => (h1 c hc).1) f) id hM hC c e hF (fun c hc => (h1 c hc).1) (fun c hc => (h1 c hc).2) hf (fun c hc its s hi => ?_)
  have := List.all_eq_true.1 hn c hc
  rw [hi] at this
  simpa using this
/-- A slice that is written out. -/
theorem rd_lit {w : World} {cs : Array Value} {e sz n : Nat} {ds : List Dat} (h : RdL w ds cs.toList) (hn : n ≤ maxLen) (hs : cs.size = n * sz) : Rd (w.alloc (.cells cs e)) (.sl e sz n ds) (.slice (some ⟨w.heap.size, 0, none⟩) n n) :=
  rd_sl.2 ⟨_, _, cs.toList, rfl, World.ownsRow_lit (base := 0) w cs n (Nat.zero_le _) hn hs, RdL.below ((Below.refl _ _).alloc (Nat.le_refl _) _) _ _ h⟩
theorem rd_nil {w : World} {e sz : Nat} : Rd w (.sl e sz 0 []) (.slice none 0 0) := rd_sl.2 ⟨none, 0, [], rfl, World.ownsRow_nil _ _ _ _, rdl_nil.2 rfl⟩
theorem itemV_nil {w : World} {x : ItemD} (h1 : x.parts = []) (h2 : x.flows = []) (h3 : x.maps = []) (h4 : x.items = []) (h5 : x.seqs = []) : ItemV w x (.slice none 0 0) (.slice none 0 0) (.slice none 0 0) (.slice none 0 0) (.slice none 0 0) := by
  unfold ItemV
  rw [h1, h2, h3, h4, h5]
  exact ⟨rd_nil, rd_nil, rd_nil, rd_nil, rd_nil⟩

def sC : ByteArray := ⟨#[99]⟩
def awI : ItemD := ⟨8, ⟨#[120]⟩, ⟨#[]⟩, [], [], false, sC, [], [], []⟩
def awC : ChorD := ⟨sC, [], [], [awI], []⟩
def awD : DocD := ⟨[], [awC]⟩
theorem aw_cycle : chorF awD 3 sC = some (⟨⟨#[]⟩, [], [], [], []⟩, 10) := by kernel_rfl
theorem aw_none : chorF awD 3 ⟨#[101]⟩ = some (⟨⟨#[]⟩, [], [], [], []⟩, 6) := by kernel_rfl

set_option maxRecDepth 100000 in
set_option maxHeartbeats 1000000 in
theorem inl_awake (w : World) : Calls Try.prog 21 #[] w fun e w' => e = .returned (.bool true) ∧ Below w.heap.size w w' := by
  obtain ⟨W1, hW1⟩ : ∃ W, W = w.alloc (.cells #[.int .i64 8, .string ⟨#[120]⟩, .string ⟨#[]⟩, .slice none 0 0, .slice none 0 0, .bool false, .string ⟨#[99]⟩, .slice none 0 0, .slice none 0 0, .slice none 0 0] 33) := ⟨_, rfl⟩
  have hI1 : Rd W1 (itemsD [awI]) (.slice (some ⟨w.heap.size, 0, none⟩) 1 1) := by
    rw [hW1]
    exact rd_lit (by rw [List.flatMap_cons, List.flatMap_nil, List.append_nil]; exact rd_itemC.2 ⟨_, _, _, _, _, rfl, itemV_nil rfl rfl rfl rfl rfl⟩) (by decide) rfl
  have hz1 : W1.heap.size = w.heap.size + 1 := by rw [hW1]; simp
  obtain ⟨W2, hW2⟩ : ∃ W, W = W1.alloc (.cells #[.string ⟨#[99]⟩, .slice none 0 0, .slice none 0 0, .slice (some ⟨w.heap.size, 0, none⟩) 1 1, .slice none 0 0] 28) := ⟨_, rfl⟩
  have hC2 : Rd W2 (chorsD awD.chors) (.slice (some ⟨w.heap.size + 1, 0, none⟩) 1 1) := by
    rw [hW2, ← hz1]
    exact rd_lit (by rw [show awD.chors = [awC] from rfl, List.flatMap_cons, List.flatMap_nil, List.append_nil]; exact rd_chorC.2 ⟨_, _, _, _, rfl, rd_nil, rd_nil, hI1, rd_nil⟩) (by decide) rfl
  have hz2 : W2.heap.size = w.heap.size + 2 := by rw [hW2]; simp [hz1]
  obtain ⟨W3, hW3⟩ : ∃ W, W = W2.alloc (.cells #[.slice none 0 0, .slice (some ⟨w.heap.size + 1, 0, none⟩) 1 1] 61) := ⟨_, rfl⟩
  have hb3 : Below w.heap.size w W3 := by
    rw [hW3, hW2, hW1]
    exact (((Below.refl _ _).alloc (Nat.le_refl _) _).alloc (by simp) _).alloc (by simp; omega) _
  have hb23 : Below W2.heap.size W2 W3 := by rw [hW3]; exact (Below.refl _ _).alloc (Nat.le_refl _) _
  have hb13 : Below W1.heap.size W1 W3 := by rw [hW3, hW2]; exact ((Below.refl _ _).alloc (Nat.le_refl _) _).alloc (by simp) _
  have hbD : Blk W3 (w.heap.size + 2) 61 #[.slice none 0 0, .slice (some ⟨w.heap.size + 1, 0, none⟩) 1 1] := by rw [hW3, ← hz2]; exact Blk.new _ _ _
  have hbC : Blk W3 (w.heap.size + 1) 28 #[.string ⟨#[99]⟩, .slice none 0 0, .slice none 0 0, .slice (some ⟨w.heap.size, 0, none⟩) 1 1, .slice none 0 0] := by
    have : Blk W2 (w.heap.size + 1) 28 #[.string ⟨#[99]⟩, .slice none 0 0, .slice none 0 0, .slice (some ⟨w.heap.size, 0, none⟩) 1 1, .slice none 0 0] := by rw [hW2, ← hz1]; exact Blk.new _ _ _
    exact this.below hb23 this.lt
  have hI3 := Rd.below hb13 _ _ hI1
  have hC3 := Rd.below hb23 _ _ hC2
  have HB3 := Lib.hid hb3
  have HBD := Lib.hid hbD
  have HBC := Lib.hid hbC
  have HI3 := Lib.hid hI3
  have HC3 := Lib.hid hC3
  have hz3 : w.heap.size + 3 ≤ W3.heap.size := by rw [hW3]; simp [hz2]
  have hW : ((w.alloc (.cells #[.int .i64 8, .string ⟨#[120]⟩, .string ⟨#[]⟩, .slice none 0 0, .slice none 0 0, .bool false, .string ⟨#[99]⟩, .slice none 0 0, .slice none 0 0, .slice none 0 0] 33)).alloc (.cells #[.string ⟨#[99]⟩, .slice none 0 0, .slice none 0 0, .slice (some ⟨w.heap.size, 0, none⟩) 1 1, .slice none 0 0] 28)).alloc (.cells #[.slice none 0 0, .slice (some ⟨w.heap.size + 1, 0, none⟩) 1 1] 61) = W3 := by rw [hW3, hW2, hW1]
  have HW := Lib.hid hW
  clear hW1 hW2 hW3 hI1 hC2 hz1 hz2 hb3 hb23 hb13 hbD hbC hI3 hC3 hW
  go_enter Try.func21, Try.ntmps21
  go_wp2_with fail
  rw [HW.out]
  refine (chor_small (d := awD) 3 rd_nil HC3.out aw_cycle (by decide +kernel) (by decide +kernel) (by decide)).mono ?_
  rintro e w4 ⟨vP, vF, vI, vS, rfl, ⟨hP, hF, hI, hS⟩, hb4⟩
  obtain ⟨AP, cP, _, rfl, _, _⟩ := rd_sl.1 hP
  obtain ⟨AF, cF, _, rfl, _, _⟩ := rd_sl.1 hF
  obtain ⟨AI, cI, _, rfl, _, _⟩ := rd_sl.1 hI
  obtain ⟨AS, cS, _, rfl, _, _⟩ := rd_sl.1 hS
  have d0 : w4.cell? ⟨w.heap.size + 1 + 1, 0, none⟩ = some (.slice none 0 0) := (HBD.out.below hb4 HBD.out.lt).cell 0
  have d1 : w4.cell? ⟨w.heap.size + 1 + 1, 1, none⟩ = some (.slice (some ⟨w.heap.size + 1, 0, none⟩) 1 1) := (HBD.out.below hb4 HBD.out.lt).cell 1
  have HB4 := Lib.hid hb4
  have hs4 := hb4.size
  have hl4 : w.heap.size + 1 + 1 < w4.heap.size := by omega
  clear hP hF hI hS hb4
  go_wp2_with fail
  refine (chor_small (d := awD) 3 rd_nil (Rd.below (HB4.out.alloc hs4 _) _ _ HC3.out) aw_none (by decide +kernel) (by decide +kernel) (by decide)).mono ?_
  rintro e w5 ⟨vP, vF, vI, vS, rfl, ⟨hP, hF, hI, hS⟩, hb5⟩
  obtain ⟨AP2, cP2, _, rfl, _, _⟩ := rd_sl.1 hP
  obtain ⟨AF2, cF2, _, rfl, _, _⟩ := rd_sl.1 hF
  obtain ⟨AI2, cI2, _, rfl, _, _⟩ := rd_sl.1 hI
  obtain ⟨AS2, cS2, _, rfl, _, _⟩ := rd_sl.1 hS
  have hb35 : Below W3.heap.size W3 w5 := (HB4.out.alloc hs4 _).trans (hb5.mono (by simp; omega))
  have k1 : w5.cell? ⟨w.heap.size + 1 + 1, 1, none⟩ = some (.slice (some ⟨w.heap.size + 1, 0, none⟩) 1 1) := (HBD.out.below hb35 HBD.out.lt).cell 1
  have k3 : w5.cell? ⟨w.heap.size + 1, 3, none⟩ = some (.slice (some ⟨w.heap.size, 0, none⟩) 1 1) := (HBC.out.below hb35 HBC.out.lt).cell 3
  have hl5 : w.heap.size + 1 + 1 < w5.heap.size := by have := hb35.size; omega
  have hl6 : w.heap.size + 1 < w5.heap.size := by omega
  have HB35 := Lib.hid hb35
  have hs5 := hb35.size
  clear hP hF hI hS hb5 hb35 d0 d1
  go_wp2_with fail
  refine (calls_any (Rd.below (HB35.out.alloc hs5 _) _ _ HI3.out)).mono ?_
  rintro e w6 ⟨rfl, hb6⟩
  have hcf : callsF [awI] = true := by kernel_rfl
  rw [hcf]
  go_wp2_with fail
  go_ret
  exact ⟨rfl, (HB3.out.trans ((HB35.out.alloc hs5 _).mono (by omega))).trans (hb6.mono (by simp; omega))⟩
end Go.Proofs.Yteoioboiniealaa
