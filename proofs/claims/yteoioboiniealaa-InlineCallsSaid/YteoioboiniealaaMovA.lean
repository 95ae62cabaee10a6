/- The law's own word moved. -/
import Derived.Test.YteoioboiniealaaInlI
import Derived.Test.YteoioboiniealaaReg
import Derived.Deep.DeepCutAuto
namespace Go.Proofs.Yteoioboiniealaa
open Go.RowKit
attribute [local go_sem ↓] Go.wp_at_zero Go.wp_at_succ

/-- An item with a path ahead, participants as maps tell: what lies within is left out. -/
def movedF (p : ByteArray) (ms : List MapD) (x : ItemD) : ItemD :=
  ⟨x.kind, p ++ x.id, if x.kind = 3 then whoF ms x.first else ⟨#[]⟩, x.parts.map (whoF ms), x.flows.map (p ++ ·), x.loop, ⟨#[]⟩, [], [], []⟩
/-- What moved knows of memory at each round's head. -/
structure MvW (w : World) (outl : List ItemD) (cells : List Value) (ov : Value) (W : World) : Prop where
  bel : Below w.heap.size w W
  own : W.ownsRow w.heap.size 33 10 ov outl.length cells
  rd : RdPL (fun b => w.heap.size ≤ b ∧ ov.ownBlock ≠ some b) W (outl.flatMap itemC) cells
section
variable {w W W1 : World} {ov : Value} {outl : List ItemD} {cells : List Value}
theorem MvW.below (h : MvW w outl cells ov W) (k : Below W.heap.size W W1) : MvW w outl cells ov W1 :=
  ⟨h.bel.trans (k.mono h.bel.size), own_below h.own k, h.rd.below k⟩
/-- An item more. -/
theorem MvW.push {o : Obj} {y : ItemD} {vs : List Value} {gO capO : Nat} (h : MvW w outl cells ov W) (hy : RdPL (fun b => w.heap.size ≤ b ∧ ov.ownBlock ≠ some b) W (itemC y) vs)
    (hown : W1.ownsRow w.heap.size 33 10 (.slice (some ⟨gO, 0, none⟩) (outl.length + 1) capO) (outl.length + 1) (cells ++ vs)) (hgrow : (W.alloc o).grownBy W1 ov.ownBlock)
    (hat : ov.ownBlock = some gO ∨ gO = W.heap.size + 1) : MvW w (outl ++ [y]) (cells ++ vs) (.slice (some ⟨gO, 0, none⟩) (outl.length + 1) capO) W1 := by
  have hsz := h.bel.size
  have ha : Below W.heap.size W (W.alloc o) := (Below.refl _ _).alloc (Nat.le_refl _) o
  have hb : Below w.heap.size W W1 := (ha.mono hsz).grown hgrow (by simp; omega) (fun k hk => (h.own.lt k hk).1)
  refine ⟨h.bel.trans hb, ?_, ?_⟩
  · have e : (outl ++ [y]).length = outl.length + 1 := by simp
    rw [e]
    exact hown
  · have hall : RdPL (fun b => w.heap.size ≤ b ∧ ov.ownBlock ≠ some b) W ((outl ++ [y]).flatMap itemC) (cells ++ vs) := by
      have e : (outl ++ [y]).flatMap itemC = outl.flatMap itemC ++ itemC y := by simp
      rw [e]
      exact h.rd.append hy
    refine RdPL.keep (fun b hs hl => ⟨?_, hs.1, ?_⟩) _ _ hall
    · exact (hgrow.block b (by simp; omega) (fun e => hs.2 e.symm)).trans (Below.heap_alloc W o b hl)
    · show some gO ≠ some b
      intro e
      injection e with e
      rcases hat with h1 | h1
      · exact hs.2 (by rw [h1, e])
      · omega
end
/-- An item that is being made, in block g, behind the world wr. -/
structure BxV (wr : World) (g : Nat) (kind : Int) (q first : ByteArray) (loop : Bool) (pl fl : List ByteArray) (vP vF : Value) (W : World) : Prop where
  bel : Below wr.heap.size wr W
  hg : wr.heap.size ≤ g
  b : Blk W g 33 #[.int .i64 kind, .string q, .string first, vP, vF, .bool loop, .string ⟨#[]⟩, .slice none 0 0, .slice none 0 0, .slice none 0 0]
  oP : W.ownsRow wr.heap.size 9 1 vP pl.length (pl.map .string)
  oF : W.ownsRow wr.heap.size 9 1 vF fl.length (fl.map .string)
  ne : ∀ g, vF.ownBlock = some g → vP.ownBlock ≠ some g
section
variable {wr W W4 : World} {g : Nat} {kind : Int} {q first : ByteArray} {loop : Bool} {pl fl : List ByteArray} {vP vF : Value}
theorem BxV.below (h : BxV wr g kind q first loop pl fl vP vF W) (k : Below W.heap.size W W4) : BxV wr g kind q first loop pl fl vP vF W4 :=
  ⟨h.bel.trans (k.mono h.bel.size), h.hg, h.b.below k h.b.lt, own_below h.oP k, own_below h.oF k, h.ne⟩
theorem BxV.setFirst (s : ByteArray) (h : BxV wr g kind q first loop pl fl vP vF W) : BxV wr g kind q s loop pl fl vP vF (W.setCell ⟨g, 2, none⟩ (.string s)) :=
  ⟨h.bel.setCell (p := ⟨g, 2, none⟩) h.hg _, h.hg, h.b.set_ 2 _, ownsRow_setCell_other h.oP (blk_own_ne h.oP h.b (by decide)) _, ownsRow_setCell_other h.oF (blk_own_ne h.oF h.b (by decide)) _, h.ne⟩
theorem BxV.part {o : Obj} {s : ByteArray} {gA capA : Nat} (h : BxV wr g kind q first loop pl fl vP vF W)
    (hown : W4.ownsRow wr.heap.size 9 1 (Value.slice (some ⟨gA, 0, none⟩) (pl.length + 1) capA) (pl.length + 1) (pl.map .string ++ [.string s])) (hgrow : (W.alloc o).grownBy W4 vP.ownBlock) (hat : vP.ownBlock = some gA ∨ gA = W.heap.size + 1) :
    BxV wr g kind q first loop (pl ++ [s]) fl (Value.slice (some ⟨gA, 0, none⟩) (pl.length + 1) capA) vF (W4.setCell ⟨g, 3, none⟩ (Value.slice (some ⟨gA, 0, none⟩) (pl.length + 1) capA)) := by
  have ha : Below W.heap.size W (W.alloc o) := (Below.refl _ _).alloc (Nat.le_refl _) o
  have hsz := h.bel.size
  have hb : Below wr.heap.size W W4 := (ha.mono hsz).grown hgrow (by simp; omega) (fun k hk => (h.oP.lt k hk).1)
  have h14 : Blk W4 g 33 _ := (h.b.alloc o).grown hgrow (Ne.symm (blk_own_ne h.oP h.b (by decide)))
  have hgA : gA ≠ g := fun e => (blk_own_ne hown h14 (by decide)) (by simp [Value.ownBlock, e])
  have hoth : W4.ownsRow wr.heap.size 9 1 vF fl.length (fl.map .string) := (h.oF.alloc o).kept hgrow (by
    rcases hv : vF.ownBlock with _ | g
    · exact .inl rfl
    · refine .inr (fun e => ?_)
      exact h.ne g hv e.symm)
  refine ⟨(h.bel.trans hb).setCell (p := ⟨g, 3, none⟩) h.hg _, h.hg, h14.set_ 3 _, ?_, ownsRow_setCell_other hoth (blk_own_ne hoth h14 (by decide)) _, ?_⟩
  · have e : (pl ++ [s]).length = pl.length + 1 := by simp
    rw [e, List.map_append]
    exact ownsRow_setCell_other hown (by simpa [Value.ownBlock] using hgA) _
  · intro g hg e
    have e1 : gA = g := by simpa [Value.ownBlock] using e
    rcases hat with h1 | h1
    · exact h.ne g hg (by rw [h1, e1])
    · have := (h.oF.lt g hg).2
      omega
theorem BxV.flow {o : Obj} {s : ByteArray} {gA capA : Nat} (h : BxV wr g kind q first loop pl fl vP vF W)
    (hown : W4.ownsRow wr.heap.size 9 1 (Value.slice (some ⟨gA, 0, none⟩) (fl.length + 1) capA) (fl.length + 1) (fl.map .string ++ [.string s])) (hgrow : (W.alloc o).grownBy W4 vF.ownBlock) (hat : vF.ownBlock = some gA ∨ gA = W.heap.size + 1) :
    BxV wr g kind q first loop pl (fl ++ [s]) vP (Value.slice (some ⟨gA, 0, none⟩) (fl.length + 1) capA) (W4.setCell ⟨g, 4, none⟩ (Value.slice (some ⟨gA, 0, none⟩) (fl.length + 1) capA)) := by
  have ha : Below W.heap.size W (W.alloc o) := (Below.refl _ _).alloc (Nat.le_refl _) o
  have hsz := h.bel.size
  have hb : Below wr.heap.size W W4 := (ha.mono hsz).grown hgrow (by simp; omega) (fun k hk => (h.oF.lt k hk).1)
  have h14 : Blk W4 g 33 _ := (h.b.alloc o).grown hgrow (Ne.symm (blk_own_ne h.oF h.b (by decide)))
  have hgA : gA ≠ g := fun e => (blk_own_ne hown h14 (by decide)) (by simp [Value.ownBlock, e])
  have hoth : W4.ownsRow wr.heap.size 9 1 vP pl.length (pl.map .string) := (h.oP.alloc o).kept hgrow (by
    rcases hv : vP.ownBlock with _ | g
    · exact .inl rfl
    · refine .inr (fun e => ?_)
      exact h.ne g e.symm hv)
  refine ⟨(h.bel.trans hb).setCell (p := ⟨g, 4, none⟩) h.hg _, h.hg, h14.set_ 4 _, ownsRow_setCell_other hoth (blk_own_ne hoth h14 (by decide)) _, ?_, ?_⟩
  · have e : (fl ++ [s]).length = fl.length + 1 := by simp
    rw [e, List.map_append]
    exact ownsRow_setCell_other hown (by simpa [Value.ownBlock] using hgA) _
  · intro g hg e
    have e1 : gA = g := by simpa [Value.ownBlock] using hg
    rcases hat with h1 | h1
    · exact h.ne gA h1 (by rw [e1]; exact e)
    · have := (h.oP.lt g e).2
      omega
end
/-- What holds at the head of the loop over participants; over message flows. -/
def MvP (wr : World) (g : Nat) (kind : Int) (q first : ByteArray) (loop : Bool) (l : List ByteArray) (G : ByteArray → ByteArray) (iv : Value) (W : World) : Prop :=
  ∃ i : Nat, i ≤ l.length ∧ iv = .int .i64 i ∧ ∃ vP vF, BxV wr g kind q first loop ((l.take i).map G) [] vP vF W
def MvF (wr : World) (g : Nat) (kind : Int) (q first : ByteArray) (loop : Bool) (pl l : List ByteArray) (G : ByteArray → ByteArray) (iv : Value) (W : World) : Prop :=
  ∃ i : Nat, i ≤ l.length ∧ iv = .int .i64 i ∧ ∃ vP vF, BxV wr g kind q first loop pl ((l.take i).map G) vP vF W

theorem rdp_nil_itemsV {w : World} {S : Nat → Prop} : RdP S w (itemsD []) (.slice none 0 0) := rdp_sl.2 ⟨none, 0, [], rfl, World.ownsRow_nil _ _ _ _, fun b hb => by simp [Value.ownBlock] at hb, rdpl_nil.2 rfl⟩
theorem rdp_nil_seqsV {w : World} {S : Nat → Prop} : RdP S w (seqsD []) (.slice none 0 0) := rdp_sl.2 ⟨none, 0, [], rfl, World.ownsRow_nil _ _ _ _, fun b hb => by simp [Value.ownBlock] at hb, rdpl_nil.2 rfl⟩
set_option maxRecDepth 100000 in
set_option maxHeartbeats 8000000 in
theorem moved_any {w : World} {v vm : Value} {l : List ItemD} {ms : List MapD} (p : ByteArray) (hp : p.size ≤ 1000) (hv : Rd w (itemsD l) v) (hm : Rd w (mapsD ms) vm) (hl : l.length ≤ 1000000) (hsm : ∀ x ∈ l, x.id.size ≤ 1000 ∧ x.parts.length ≤ 1000 ∧ x.flows.length ≤ 1000 ∧ ∀ f ∈ x.flows, f.size ≤ 1000) :
    Calls Try.prog 19 #[v, .string p, vm] w fun e w' => ∃ A c, e = .returned (.slice A l.length c) ∧ RdP (fun b => w.heap.size ≤ b) w' (itemsD (l.map (movedF p ms))) (.slice A l.length c) ∧ Below w.heap.size w w' := by
  obtain ⟨i0, hi0, hz0, hz1, hz2⟩ := info_parts Try.infoItem
  obtain ⟨j0, hj0, hy0, hy1, hy2⟩ := info_parts Try.infoStrI
  obtain ⟨A, c, rfl, hlc, hcm, hat⟩ := rd_at itemC_len hv
  unfold maxLen at hcm
  have HAT := Lib.hid hat
  have HSM := Lib.hid hsm
  have HM := Lib.hid hm
  have h0 : (w.alloc (.cells #[] 33)).ownsRow w.heap.size 33 10 (.slice (some ⟨w.heap.size, 0, none⟩) 0 0) 0 [] := World.ownsRow_lit (base := w.heap.size) w #[] 0 (Nat.le_refl _) (by decide) rfl
  have H0 := Lib.hid h0
  clear hat hv hsm hm h0
  go_enter Try.func19, Try.ntmps19
  go_wp2_with fail
  go_loopw [7, 8] (fun ov iv wr => ∃ (k : Nat) (cells : List Value), k ≤ l.length ∧ iv = .int .i64 k ∧ MvW w ((l.take k).map (movedF p ms)) cells ov wr) (fun _ iv _ => l.length - (intOf iv).toNat)
  case atStart => exact ⟨0, [], Nat.zero_le _, rfl, (Below.refl _ _).alloc (Nat.le_refl _) _, H0.out, rdpl_nil.2 rfl⟩
  case round =>
    obtain ⟨k, cells, hk, rfl, hX⟩ := hrel
    obtain ⟨V0, rfl⟩ : ∃ V, V = wr := ⟨_, rfl⟩
    have HX := Lib.hid hX
    have hszr := hX.bel.size
    clear hX
    by_cases hlt : k < l.length
    · obtain ⟨b, vs, rfl, hbl, _, hvs, hcell⟩ := HAT.out k hlt
      obtain ⟨x, hx⟩ : ∃ x, x = l[k] := ⟨_, rfl⟩
      have hsx := HSM.out l[k] (List.getElem_mem hlt)
      rw [← hx] at hvs hsx
      have hst : (l.take (k + 1)).map (movedF p ms) = (l.take k).map (movedF p ms) ++ [movedF p ms x] := by
        rw [List.take_succ_eq_append_getElem hlt, List.map_append, hx]
        rfl
      obtain ⟨v3, v4, v7, v8, v9, rfl, h3, h4, _, _, _⟩ := rd_itemC.1 hvs
      have H3 := Lib.hid h3
      have H4 := Lib.hid h4
      obtain ⟨A3, k3, rfl, _, _, hat3⟩ := rd_at strC_len h3
      obtain ⟨A4, k4, rfl, _, _, hat4⟩ := rd_at strC_len h4
      have HAT3 := Lib.hid hat3
      have HAT4 := Lib.hid hat4
      have HST := Lib.hid hst
      obtain ⟨outl, houtl⟩ : ∃ o, o = (l.take k).map (movedF p ms) := ⟨_, rfl⟩
      rw [← houtl] at HX HST
      have holen : outl.length ≤ k := by rw [houtl]; simp; omega
      have hE0 : w.cell? ⟨b, k * 10, none⟩ = some (.int .i64 x.kind) := hcell 0 (by omega)
      have hE1 : w.cell? ⟨b, k * 10 + 1, none⟩ = some (.string x.id) := hcell 1 (by omega)
      have hE2 : w.cell? ⟨b, k * 10 + 2, none⟩ = some (.string x.first) := hcell 2 (by omega)
      have hE3 : w.cell? ⟨b, k * 10 + 3, none⟩ = some (.slice A3 x.parts.length k3) := hcell 3 (by omega)
      have hE4 : w.cell? ⟨b, k * 10 + 4, none⟩ = some (.slice A4 x.flows.length k4) := hcell 4 (by omega)
      have hE5 : w.cell? ⟨b, k * 10 + 5, none⟩ = some (.bool x.loop) := hcell 5 (by omega)
      have HE : Hid (∀ U : World, Below w.heap.size w U → U.cell? ⟨b, k * 10, none⟩ = some (.int .i64 x.kind) ∧ U.cell? ⟨b, k * 10 + 1, none⟩ = some (.string x.id) ∧ U.cell? ⟨b, k * 10 + 2, none⟩ = some (.string x.first) ∧ U.cell? ⟨b, k * 10 + 3, none⟩ = some (.slice A3 x.parts.length k3) ∧ U.cell? ⟨b, k * 10 + 4, none⟩ = some (.slice A4 x.flows.length k4) ∧ U.cell? ⟨b, k * 10 + 5, none⟩ = some (.bool x.loop)) := fun U hb =>
        ⟨(hb.cell (p := ⟨b, k * 10, none⟩) hbl).trans hE0, (hb.cell (p := ⟨b, k * 10 + 1, none⟩) hbl).trans hE1, (hb.cell (p := ⟨b, k * 10 + 2, none⟩) hbl).trans hE2, (hb.cell (p := ⟨b, k * 10 + 3, none⟩) hbl).trans hE3, (hb.cell (p := ⟨b, k * 10 + 4, none⟩) hbl).trans hE4, (hb.cell (p := ⟨b, k * 10 + 5, none⟩) hbl).trans hE5⟩
      obtain ⟨hs1, hs2, hs3, hs4⟩ := hsx
      have HS4 := Lib.hid hs4
      have HOL := Lib.hid houtl
      have hkI : (k : Int) < (l.length : Int) := by omega
      have hlm : (l.length : Int) ≤ 1000000 := by omega
      have hc1 : ¬ 9223372036854775807 < p.size + x.id.size := by omega
      have hw0 : Below w.heap.size w V0 := HX.out.bel
      have HW0 := Lib.hid hw0
      clear hvs hx hcell h3 h4 hat3 hat4 hst hE0 hE1 hE2 hE3 hE4 hE5 hs4 hw0 houtl
      obtain ⟨fs, hfs⟩ : ∃ fs, fs = if x.kind = 3 then whoF ms x.first else ⟨#[]⟩ := ⟨_, rfl⟩
      have HFS := Lib.hid hfs
      clear hfs
      go_upto_region 5 with fail
      go_cut [9] (fun v wx => ∃ g, v = .pointer (some ⟨g, 0, none⟩) ∧ BxV V0 g x.kind (p ++ x.id) ⟨#[]⟩ x.loop [] [] (.slice none 0 0) (.slice none 0 0) wx)
      case first =>
        refine wp_region_HT 19 (fun U => Below w.heap.size w U) (by kernel_rfl) (by decide) (HW0.out.drew) (fun hHeld => ?_)
        refine ht_take 0 (v := ?vm_1) rfl (by kernel_rfl) (fun _ _ _ h => h) (Or.inl ⟨by rfl, ?hm_1⟩) hHeld ?rm_1
        case hm_1 => ((intro U hSw; obtain ⟨y0, y1, y2, y3, y4, y5⟩ := HE.out U hSw; go_simp; (try simp only [if_neg hc1])); (try (with_reducible rfl)))
        try simp only [Act.put, List.setIfInBounds_toArray, List.set_cons_zero, List.set_cons_succ]
        refine ht_take 1 (v := ?vm_2) rfl (by kernel_rfl) (fun _ _ _ h => h) (Or.inl ⟨by rfl, ?hm_2⟩) hHeld ?rm_2
        case hm_2 => ((intro U hSw; obtain ⟨y0, y1, y2, y3, y4, y5⟩ := HE.out U hSw; go_simp; (try simp only [if_neg hc1])); (try (with_reducible rfl)))
        try simp only [Act.put, List.setIfInBounds_toArray, List.set_cons_zero, List.set_cons_succ]
        refine ht_take 2 (v := ?vm_3) rfl (by kernel_rfl) (fun _ _ _ h => h) (Or.inl ⟨by rfl, ?hm_3⟩) hHeld ?rm_3
        case hm_3 => ((intro U hSw; obtain ⟨y0, y1, y2, y3, y4, y5⟩ := HE.out U hSw; go_simp; (try simp only [if_neg hc1])); (try (with_reducible rfl)))
        try simp only [Act.put, List.setIfInBounds_toArray, List.set_cons_zero, List.set_cons_succ]
        refine ht_take 3 (v := ?vm_4) rfl (by kernel_rfl) (fun _ _ _ h => h) (Or.inl ⟨by rfl, ?hm_4⟩) hHeld ?rm_4
        case hm_4 => ((intro U hSw; obtain ⟨y0, y1, y2, y3, y4, y5⟩ := HE.out U hSw; go_simp; (try simp only [if_neg hc1])); (try (with_reducible rfl)))
        try simp only [Act.put, List.setIfInBounds_toArray, List.set_cons_zero, List.set_cons_succ]
        refine ht_take 4 (v := ?vm_5) rfl (by kernel_rfl) (fun _ _ _ h => h) (Or.inl ⟨by rfl, ?hm_5⟩) hHeld ?rm_5
        case hm_5 => ((intro U hSw; obtain ⟨y0, y1, y2, y3, y4, y5⟩ := HE.out U hSw; go_simp; (try simp only [if_neg hc1])); (try (with_reducible rfl)))
        try simp only [Act.put, List.setIfInBounds_toArray, List.set_cons_zero, List.set_cons_succ]
        refine ht_take 5 (v := ?vm_6) rfl (by kernel_rfl) (fun _ _ _ h => h) (Or.inl ⟨by rfl, ?hm_6⟩) hHeld ?rm_6
        case hm_6 => ((intro U hSw; obtain ⟨y0, y1, y2, y3, y4, y5⟩ := HE.out U hSw; go_simp; (try simp only [if_neg hc1])); (try (with_reducible rfl)))
        try simp only [Act.put, List.setIfInBounds_toArray, List.set_cons_zero, List.set_cons_succ]
        refine ht_take 6 (v := ?vm_7) rfl (by kernel_rfl) (fun _ _ _ h => h) (Or.inl ⟨by rfl, ?hm_7⟩) hHeld ?rm_7
        case hm_7 => ((intro U hSw; obtain ⟨y0, y1, y2, y3, y4, y5⟩ := HE.out U hSw; go_simp; (try simp only [if_neg hc1])); (try (with_reducible rfl)))
        try simp only [Act.put, List.setIfInBounds_toArray, List.set_cons_zero, List.set_cons_succ]
        refine ht_take 7 (v := ?vm_8) rfl (by kernel_rfl) (fun _ _ _ h => h) (Or.inl ⟨by rfl, ?hm_8⟩) hHeld ?rm_8
        case hm_8 => ((intro U hSw; obtain ⟨y0, y1, y2, y3, y4, y5⟩ := HE.out U hSw; go_simp; (try simp only [if_neg hc1])); (try (with_reducible rfl)))
        try simp only [Act.put, List.setIfInBounds_toArray, List.set_cons_zero, List.set_cons_succ]
        refine ht_take 8 (v := ?vm_9) rfl (by kernel_rfl) (fun _ _ _ h => h) (Or.inl ⟨by rfl, ?hm_9⟩) hHeld ?rm_9
        case hm_9 => ((intro U hSw; obtain ⟨y0, y1, y2, y3, y4, y5⟩ := HE.out U hSw; go_simp; (try simp only [if_neg hc1])); (try (with_reducible rfl)))
        try simp only [Act.put, List.setIfInBounds_toArray, List.set_cons_zero, List.set_cons_succ]
        refine ht_take 9 (v := ?vm_10) rfl (by kernel_rfl) (fun _ _ _ h => h) (Or.inl ⟨by rfl, ?hm_10⟩) hHeld ?rm_10
        case hm_10 => ((intro U hSw; obtain ⟨y0, y1, y2, y3, y4, y5⟩ := HE.out U hSw; go_simp; (try simp only [if_neg hc1])); (try (with_reducible rfl)))
        try simp only [Act.put, List.setIfInBounds_toArray, List.set_cons_zero, List.set_cons_succ]
        refine ht_take 10 (v := ?vm_11) rfl (by kernel_rfl) (fun _ _ _ h => h) (Or.inl ⟨by rfl, ?hm_11⟩) hHeld ?rm_11
        case hm_11 => ((intro U hSw; obtain ⟨y0, y1, y2, y3, y4, y5⟩ := HE.out U hSw; go_simp; (try simp only [if_neg hc1])); (try (with_reducible rfl)))
        try simp only [Act.put, List.setIfInBounds_toArray, List.set_cons_zero, List.set_cons_succ]
        refine ht_take 11 (v := ?vm_12) rfl (by kernel_rfl) (fun _ _ _ h => h) (Or.inl ⟨by rfl, ?hm_12⟩) hHeld ?rm_12
        case hm_12 => ((intro U hSw; obtain ⟨y0, y1, y2, y3, y4, y5⟩ := HE.out U hSw; go_simp; (try simp only [if_neg hc1])); (try (with_reducible rfl)))
        try simp only [Act.put, List.setIfInBounds_toArray, List.set_cons_zero, List.set_cons_succ]
        refine ht_take 12 (v := ?vm_13) rfl (by kernel_rfl) (fun _ _ _ h => h) (Or.inl ⟨by rfl, ?hm_13⟩) hHeld ?rm_13
        case hm_13 => ((intro U hSw; obtain ⟨y0, y1, y2, y3, y4, y5⟩ := HE.out U hSw; go_simp; (try simp only [if_neg hc1])); (try (with_reducible rfl)))
        try simp only [Act.put, List.setIfInBounds_toArray, List.set_cons_zero, List.set_cons_succ]
        refine ht_take 13 (v := ?vm_14) rfl (by kernel_rfl) (fun _ _ _ h => h) (Or.inl ⟨by rfl, ?hm_14⟩) hHeld ?rm_14
        case hm_14 => ((intro U hSw; obtain ⟨y0, y1, y2, y3, y4, y5⟩ := HE.out U hSw; go_simp; (try simp only [if_neg hc1])); (try (with_reducible rfl)))
        try simp only [Act.put, List.setIfInBounds_toArray, List.set_cons_zero, List.set_cons_succ]
        refine ht_take 14 (v := ?vm_15) rfl (by kernel_rfl) (fun _ _ _ h => h) (Or.inl ⟨by rfl, ?hm_15⟩) hHeld ?rm_15
        case hm_15 => ((intro U hSw; obtain ⟨y0, y1, y2, y3, y4, y5⟩ := HE.out U hSw; go_simp; (try simp only [if_neg hc1])); (try (with_reducible rfl)))
        try simp only [Act.put, List.setIfInBounds_toArray, List.set_cons_zero, List.set_cons_succ]
        refine ht_take 15 (v := ?vm_16) rfl (by kernel_rfl) (fun _ _ _ h => h) (Or.inl ⟨by rfl, ?hm_16⟩) hHeld ?rm_16
        case hm_16 => ((intro U hSw; obtain ⟨y0, y1, y2, y3, y4, y5⟩ := HE.out U hSw; go_simp; (try simp only [if_neg hc1])); (try (with_reducible rfl)))
        try simp only [Act.put, List.setIfInBounds_toArray, List.set_cons_zero, List.set_cons_succ]
        refine ht_take 16 (v := ?vm_17) rfl (by kernel_rfl) (fun _ _ _ h => h) (Or.inl ⟨by rfl, ?hm_17⟩) hHeld ?rm_17
        case hm_17 => ((intro U hSw; obtain ⟨y0, y1, y2, y3, y4, y5⟩ := HE.out U hSw; go_simp; (try simp only [if_neg hc1])); (try (with_reducible rfl)))
        try simp only [Act.put, List.setIfInBounds_toArray, List.set_cons_zero, List.set_cons_succ]
        refine ht_take 17 (v := ?vm_18) rfl (by kernel_rfl) (fun _ _ _ h => h) (Or.inl ⟨by rfl, ?hm_18⟩) hHeld ?rm_18
        case hm_18 => ((intro U hSw; obtain ⟨y0, y1, y2, y3, y4, y5⟩ := HE.out U hSw; go_simp; (try simp only [if_neg hc1])); (try (with_reducible rfl)))
        try simp only [Act.put, List.setIfInBounds_toArray, List.set_cons_zero, List.set_cons_succ]
        refine ht_one 18 rfl (by kernel_rfl) (fun K hK => ?_)
        go_simp
        refine hK.out _ _ (hHeld.alloc hHeld.size _) (fun hHeld => ?_)
        clear hK K
        try simp only [Act.put, List.setIfInBounds_toArray, List.set_cons_zero, List.set_cons_succ]
        refine ht_done (by kernel_rfl) rfl ?_
        go_wp2_with fail
        go_meet
        case rel => exact ⟨V0.heap.size, rfl, ((Below.refl _ _).drew).alloc (Nat.le_refl _) _, Nat.le_refl _, Blk.new _ _ _, World.ownsRow_nil _ _ _ _, World.ownsRow_nil _ _ _ _, fun g hg => by simp [Value.ownBlock] at hg⟩
      case rest =>
        obtain ⟨g, rfl, hV⟩ := hcut
        obtain ⟨wf, rfl⟩ : ∃ wf, wf = wc := ⟨_, rfl⟩
        have c0 : wf.cell? ⟨g, 0, none⟩ = some (.int .i64 x.kind) := hV.b.cell 0
        have HV := Lib.hid hV
        clear hV
        go_upto_if 39 with fail
        go_cut [] (fun wx => ∃ vP vF, BxV V0 g x.kind (p ++ x.id) fs x.loop [] [] vP vF wx)
        case first =>
          by_cases hk3 : x.kind = 3
          · have e : fs = whoF ms x.first := by rw [HFS.out, if_pos hk3]
            have hkb3 : (x.kind == 3) = true := by simp [hk3]
            have HFE := Lib.hid e
            have c2 := (HE.out wf (HW0.out.trans (HV.out.bel.mono hszr))).2.2.1
            have hrm : Rd wf (mapsD ms) vm := Rd.below (HW0.out.trans (HV.out.bel.mono hszr)) _ _ HM.out
            have HRM := Lib.hid hrm
            clear e hk3 hrm
            go_wp2_with fail
            refine (lwho_any x.first HRM.out).mono ?_
            rintro e w6 ⟨rfl, hb6'⟩
            have hV6 := HV.out.below hb6'
            have z0 : w6.cell? ⟨g, 2, none⟩ = some (.string ⟨#[]⟩) := hV6.b.cell 2
            have z1 := hV6.b.frozen 2
            have HV6 := Lib.hid hV6
            clear hV6 hb6'
            go_wp2_with fail
            go_meet
            case rel =>
              have := HV6.out.setFirst (whoF ms x.first)
              rw [← HFE.out] at this ⊢
              exact ⟨_, _, this⟩
          · have e : fs = ⟨#[]⟩ := by rw [HFS.out, if_neg hk3]
            have hkb3 : (x.kind == 3) = false := by simp [hk3]
            have HFE := Lib.hid e
            clear e hk3
            go_wp2_with fail
            go_meet
            case rel => rw [HFE.out]; exact ⟨_, _, HV.out⟩
        case rest =>
          have HN := Lib.hid hcut
          clear hcut c0
          go_wp2_with fail
          go_loopw [10] (fun iv wq => MvP V0 g x.kind (p ++ x.id) fs x.loop x.parts (whoF ms) iv wq) (fun iv _ => x.parts.length - (intOf iv).toNat)
          case atStart => exact ⟨0, Nat.zero_le _, rfl, HN.out⟩
          case round =>
            obtain ⟨i, hi, rfl, vPn, vFn, hV⟩ := hrel
            obtain ⟨wq, rfl⟩ : ∃ W, W = wr := ⟨_, rfl⟩
            have HV2 := Lib.hid hV
            have hbq : Below w.heap.size w wq := HW0.out.trans (hV.bel.mono hszr)
            have c3 := (HE.out wq hbq).2.2.2.1
            have HBQ := Lib.hid hbq
            clear hV hbq
            by_cases hlt2 : i < x.parts.length
            · obtain ⟨b3, vs, rfl, hb3l, _, hvs3, hcell3⟩ := HAT3.out i hlt2
              obtain ⟨sp, hsp⟩ : ∃ sp, sp = x.parts[i] := ⟨_, rfl⟩
              have hst : (x.parts.take (i + 1)).map (whoF ms) = (x.parts.take i).map (whoF ms) ++ [whoF ms sp] := by
                rw [List.take_succ_eq_append_getElem hlt2, List.map_append, hsp]
                rfl
              rw [← hsp] at hvs3
              obtain rfl := rd_strC hvs3
              have hE6 : w.cell? ⟨b3, i, none⟩ = some (.string sp) := by have := hcell3 0 (by omega); simpa using this
              have HE6 := Lib.hid hE6
              obtain ⟨pl, hpl⟩ : ∃ pl, pl = (x.parts.take i).map (whoF ms) := ⟨_, rfl⟩
              have hplb : pl.length ≤ 1000000 := by rw [hpl]; simp; omega
              have hV3 := HV2.out
              rw [← hpl] at hV3 hst
              have HST2 := Lib.hid hst
              have HV3 := Lib.hid hV3
              have hszq := hV3.bel.size
              have hiI : (i : Int) < (x.parts.length : Int) := by omega
              have hiM : (x.parts.length : Int) ≤ 1000 := by omega
              clear hsp hvs3 hcell3 hst hpl hV3 HV2 hE6
              go_upto_region 11 with fail
              refine wp_region_HT 15 (fun U => Blk U g 33 #[.int .i64 x.kind, .string (p ++ x.id), .string fs, vPn, vFn, .bool x.loop, .string ⟨#[]⟩, .slice none 0 0, .slice none 0 0, .slice none 0 0] ∧ Below w.heap.size w U) (by kernel_rfl) (by decide) (⟨HV3.out.b, HBQ.out.drew⟩) (fun hHeld => ?_)
              refine ht_take 0 (v := ?vq_1) rfl (by kernel_rfl) (fun _ _ _ h => h) (Or.inl ⟨by rfl, ?hq_1⟩) hHeld ?rq_1
              case hq_1 => ((intro U hSw; have y0 : U.cell? ⟨g, 3, none⟩ = some vPn := hSw.1.cell 3; have y1 := (HE.out U hSw.2).2.2.2.1; have y2 := (hSw.2.cell (p := ⟨b3, i, none⟩) hb3l).trans HE6.out; go_simp); (try (with_reducible rfl)))
              try simp only [Act.put, List.setIfInBounds_toArray, List.set_cons_zero, List.set_cons_succ]
              refine ht_take 1 (v := ?vq_2) rfl (by kernel_rfl) (fun _ _ _ h => h) (Or.inl ⟨by rfl, ?hq_2⟩) hHeld ?rq_2
              case hq_2 => ((intro U hSw; have y0 : U.cell? ⟨g, 3, none⟩ = some vPn := hSw.1.cell 3; have y1 := (HE.out U hSw.2).2.2.2.1; have y2 := (hSw.2.cell (p := ⟨b3, i, none⟩) hb3l).trans HE6.out; go_simp); (try (with_reducible rfl)))
              try simp only [Act.put, List.setIfInBounds_toArray, List.set_cons_zero, List.set_cons_succ]
              refine ht_take 2 (v := ?vq_3) rfl (by kernel_rfl) (fun _ _ _ h => h) (Or.inl ⟨by rfl, ?hq_3⟩) hHeld ?rq_3
              case hq_3 => ((intro U hSw; have y0 : U.cell? ⟨g, 3, none⟩ = some vPn := hSw.1.cell 3; have y1 := (HE.out U hSw.2).2.2.2.1; have y2 := (hSw.2.cell (p := ⟨b3, i, none⟩) hb3l).trans HE6.out; go_simp); (try (with_reducible rfl)))
              try simp only [Act.put, List.setIfInBounds_toArray, List.set_cons_zero, List.set_cons_succ]
              refine ht_take 3 (v := ?vq_4) rfl (by kernel_rfl) (fun _ _ _ h => h) (Or.inl ⟨by rfl, ?hq_4⟩) hHeld ?rq_4
              case hq_4 => ((intro U hSw; have y0 : U.cell? ⟨g, 3, none⟩ = some vPn := hSw.1.cell 3; have y1 := (HE.out U hSw.2).2.2.2.1; have y2 := (hSw.2.cell (p := ⟨b3, i, none⟩) hb3l).trans HE6.out; go_simp); (try (with_reducible rfl)))
              try simp only [Act.put, List.setIfInBounds_toArray, List.set_cons_zero, List.set_cons_succ]
              refine ht_take 4 (v := ?vq_5) rfl (by kernel_rfl) (fun _ _ _ h => h) (Or.inl ⟨by rfl, ?hq_5⟩) hHeld ?rq_5
              case hq_5 => ((intro U hSw; have y0 : U.cell? ⟨g, 3, none⟩ = some vPn := hSw.1.cell 3; have y1 := (HE.out U hSw.2).2.2.2.1; have y2 := (hSw.2.cell (p := ⟨b3, i, none⟩) hb3l).trans HE6.out; go_simp); (try (with_reducible rfl)))
              try simp only [Act.put, List.setIfInBounds_toArray, List.set_cons_zero, List.set_cons_succ]
              refine ht_take 5 (v := ?vq_6) rfl (by kernel_rfl) (fun _ _ _ h => h) (Or.inl ⟨by rfl, ?hq_6⟩) hHeld ?rq_6
              case hq_6 => ((intro U hSw; have y0 : U.cell? ⟨g, 3, none⟩ = some vPn := hSw.1.cell 3; have y1 := (HE.out U hSw.2).2.2.2.1; have y2 := (hSw.2.cell (p := ⟨b3, i, none⟩) hb3l).trans HE6.out; go_simp); (try (with_reducible rfl)))
              try simp only [Act.put, List.setIfInBounds_toArray, List.set_cons_zero, List.set_cons_succ]
              refine ht_take 6 (v := ?vq_7) rfl (by kernel_rfl) (fun _ _ _ h => h) (Or.inl ⟨by rfl, ?hq_7⟩) hHeld ?rq_7
              case hq_7 => ((intro U hSw; have y0 : U.cell? ⟨g, 3, none⟩ = some vPn := hSw.1.cell 3; have y1 := (HE.out U hSw.2).2.2.2.1; have y2 := (hSw.2.cell (p := ⟨b3, i, none⟩) hb3l).trans HE6.out; go_simp); (try (with_reducible rfl)))
              try simp only [Act.put, List.setIfInBounds_toArray, List.set_cons_zero, List.set_cons_succ]
              refine ht_take 7 (v := ?vq_8) rfl (by kernel_rfl) (fun _ _ _ h => h) (Or.inl ⟨by rfl, ?hq_8⟩) hHeld ?rq_8
              case hq_8 => ((intro U hSw; have y0 : U.cell? ⟨g, 3, none⟩ = some vPn := hSw.1.cell 3; have y1 := (HE.out U hSw.2).2.2.2.1; have y2 := (hSw.2.cell (p := ⟨b3, i, none⟩) hb3l).trans HE6.out; go_simp); (try (with_reducible rfl)))
              try simp only [Act.put, List.setIfInBounds_toArray, List.set_cons_zero, List.set_cons_succ]
              refine ht_take 8 (v := ?vq_9) rfl (by kernel_rfl) (fun _ _ _ h => h) (Or.inl ⟨by rfl, ?hq_9⟩) hHeld ?rq_9
              case hq_9 => ((intro U hSw; have y0 : U.cell? ⟨g, 3, none⟩ = some vPn := hSw.1.cell 3; have y1 := (HE.out U hSw.2).2.2.2.1; have y2 := (hSw.2.cell (p := ⟨b3, i, none⟩) hb3l).trans HE6.out; go_simp); (try (with_reducible rfl)))
              try simp only [Act.put, List.setIfInBounds_toArray, List.set_cons_zero, List.set_cons_succ]
              refine ht_take 9 (v := ?vq_10) rfl (by kernel_rfl) (fun _ _ _ h => h) (Or.inl ⟨by rfl, ?hq_10⟩) hHeld ?rq_10
              case hq_10 => ((intro U hSw; have y0 : U.cell? ⟨g, 3, none⟩ = some vPn := hSw.1.cell 3; have y1 := (HE.out U hSw.2).2.2.2.1; have y2 := (hSw.2.cell (p := ⟨b3, i, none⟩) hb3l).trans HE6.out; go_simp); (try (with_reducible rfl)))
              try simp only [Act.put, List.setIfInBounds_toArray, List.set_cons_zero, List.set_cons_succ]
              refine ht_take 10 (v := ?vq_11) rfl (by kernel_rfl) (fun _ _ _ h => h) (Or.inl ⟨by rfl, ?hq_11⟩) hHeld ?rq_11
              case hq_11 => ((intro U hSw; have y0 : U.cell? ⟨g, 3, none⟩ = some vPn := hSw.1.cell 3; have y1 := (HE.out U hSw.2).2.2.2.1; have y2 := (hSw.2.cell (p := ⟨b3, i, none⟩) hb3l).trans HE6.out; go_simp); (try (with_reducible rfl)))
              try simp only [Act.put, List.setIfInBounds_toArray, List.set_cons_zero, List.set_cons_succ]
              refine ht_one 11 rfl (by kernel_rfl) (fun K hK => ?_)
              go_simp
              refine (lwho_any sp (Rd.below (w := w) (by first | exact HBQ.out.drew) _ _ HM.out)).mono ?_
              rintro e w6 ⟨rfl, hb6'⟩
              have hV6 := HV3.out.below (((Below.refl _ _).drew).trans hb6')
              have HV6 := Lib.hid hV6
              have hsz6' := hV6.bel.size
              clear hV6
              go_wp2_with fail
              refine hK.out _ _ (⟨hHeld.1.below hb6' hHeld.1.lt, hHeld.2.trans (hb6'.mono hHeld.2.size)⟩) (fun hHeld => ?_)
              clear hK K
              try simp only [Act.put, List.setIfInBounds_toArray, List.set_cons_zero, List.set_cons_succ]
              refine ht_one 12 rfl (by kernel_rfl) (fun K hK => ?_)
              go_simp
              refine hK.out _ _ (⟨hHeld.1.alloc _, hHeld.2.alloc hHeld.2.size _⟩) (fun hHeld => ?_)
              clear hK K
              try simp only [Act.put, List.setIfInBounds_toArray, List.set_cons_zero, List.set_cons_succ]
              refine ht_one 13 rfl (by kernel_rfl) (fun K hK => ?_)
              refine step_append_lies _ (by rfl) (.tmp 59) (.tmp 70) _ (by rfl) V0.heap.size 9 j0 _ 1 16 Try.underlying30 hj0 hy0 hy1 hy2 rfl (by omega) vPn pl.length (pl.map .string) (by rfl) (HV6.out.oP.alloc _) ⟨w6.heap.size, 0, none⟩ 1 1 [.string (whoF ms sp)] (by rfl) (by rfl) (World.news_of_block (cs := #[.string (whoF ms sp)]) (t := 9) (fr := (0, 0)) (heap_alloc_new w6 _)) (by simp [Value.oneCell']) (by omega) (by unfold maxLen; omega) (by omega) (by simp; omega) (w6.heap.size + 1) (by simp) ?_
              intro gA capA w7 hown7 hgrow7 hat7 hlt7
              refine hK.out _ _ (⟨hHeld.1.grown hgrow7 (Ne.symm (blk_own_ne (HV6.out.oP.alloc _) hHeld.1 (by decide))), hHeld.2.grown hgrow7 hHeld.2.size (fun j hj => by have := (HV6.out.oP.lt j hj).1; omega)⟩) (fun hHeld => ?_)
              clear hK K
              try simp only [Act.put, List.setIfInBounds_toArray, List.set_cons_zero, List.set_cons_succ]
              refine ht_take 14 (v := ?vq_12) rfl (by kernel_rfl) (fun _ _ _ h => h) (Or.inl ⟨by rfl, ?hq_12⟩) hHeld ?rq_12
              case hq_12 => ((intro U hSw; have y0 : U.cell? ⟨g, 3, none⟩ = some vPn := hSw.1.cell 3; have y1 := (HE.out U hSw.2).2.2.2.1; have y2 := (hSw.2.cell (p := ⟨b3, i, none⟩) hb3l).trans HE6.out; go_simp); (try (with_reducible rfl)))
              try simp only [Act.put, List.setIfInBounds_toArray, List.set_cons_zero, List.set_cons_succ]
              refine ht_done (by kernel_rfl) rfl ?_
              have z0 : w7.cell? ⟨g, 3, none⟩ = some vPn := hHeld.1.cell 3
              have z1 := hHeld.1.frozen 3
              have hV7 := HV6.out.part hown7 hgrow7 hat7
              have HV7 := Lib.hid hV7
              clear hV7
              go_wp2_with fail
              go_roundw
              case rel => exact ⟨i + 1, by omega, by go_num, by rw [HST2.out]; exact ⟨_, _, HV7.out⟩⟩
              case measure => simp [intOf]; omega
            · have hall : (x.parts.take i).map (whoF ms) = x.parts.map (whoF ms) := by rw [List.take_of_length_le (by omega)]
              have hV3 := HV2.out
              rw [hall] at hV3
              have HV3 := Lib.hid hV3
              clear hall hV3 HV2
              go_wp2_with fail
              go_loopw [11] (fun iv wq => MvF V0 g x.kind (p ++ x.id) fs x.loop (x.parts.map (whoF ms)) x.flows (p ++ ·) iv wq) (fun iv _ => x.flows.length - (intOf iv).toNat)
              case atStart => exact ⟨0, Nat.zero_le _, rfl, _, _, HV3.out⟩
              case round =>
                clear c3 HV3 HBQ
                obtain ⟨i2, hi2, rfl, vPn2, vFn2, hV⟩ := hrel
                obtain ⟨wz, rfl⟩ : ∃ W, W = wr := ⟨_, rfl⟩
                have HV4 := Lib.hid hV
                have hszq := hV.bel.size
                have hbq : Below w.heap.size w wz := HW0.out.trans (hV.bel.mono hszr)
                have c4 := (HE.out wz hbq).2.2.2.2.1
                have HBQ := Lib.hid hbq
                clear hV hbq
                by_cases hlt3 : i2 < x.flows.length
                · obtain ⟨b4, vs, rfl, hb4l, _, hvs4, hcell4⟩ := HAT4.out i2 hlt3
                  obtain ⟨sf, hsf⟩ : ∃ sf, sf = x.flows[i2] := ⟨_, rfl⟩
                  have hst : (x.flows.take (i2 + 1)).map (p ++ ·) = (x.flows.take i2).map (p ++ ·) ++ [p ++ sf] := by
                    rw [List.take_succ_eq_append_getElem hlt3, List.map_append, hsf]
                    rfl
                  have hsfz : sf.size ≤ 1000 := by rw [hsf]; exact HS4.out _ (List.getElem_mem hlt3)
                  rw [← hsf] at hvs4
                  obtain rfl := rd_strC hvs4
                  have hE6 : w.cell? ⟨b4, i2, none⟩ = some (.string sf) := by have := hcell4 0 (by omega); simpa using this
                  have HE6 := Lib.hid hE6
                  obtain ⟨fl, hfl⟩ : ∃ fl, fl = (x.flows.take i2).map (p ++ ·) := ⟨_, rfl⟩
                  have hplb : fl.length ≤ 1000000 := by rw [hfl]; simp; omega
                  have hV5 := HV4.out
                  rw [← hfl] at hV5 hst
                  have HST2 := Lib.hid hst
                  have HV5 := Lib.hid hV5
                  have hiI : (i2 : Int) < (x.flows.length : Int) := by omega
                  have hiM : (x.flows.length : Int) ≤ 1000 := by omega
                  have hc2 : ¬ 9223372036854775807 < p.size + sf.size := by omega
                  clear hsf hvs4 hcell4 hst hfl hV5 HV4 hE6
                  go_upto_region 15 with fail
                  refine wp_region_HT 15 (fun U => Blk U g 33 #[.int .i64 x.kind, .string (p ++ x.id), .string fs, vPn2, vFn2, .bool x.loop, .string ⟨#[]⟩, .slice none 0 0, .slice none 0 0, .slice none 0 0] ∧ Below w.heap.size w U) (by kernel_rfl) (by decide) (⟨HV5.out.b, HBQ.out.drew⟩) (fun hHeld => ?_)
                  refine ht_take 0 (v := ?vr_1) rfl (by kernel_rfl) (fun _ _ _ h => h) (Or.inl ⟨by rfl, ?hr_1⟩) hHeld ?rr_1
                  case hr_1 => ((intro U hSw; have y0 : U.cell? ⟨g, 4, none⟩ = some vFn2 := hSw.1.cell 4; have y1 := (HE.out U hSw.2).2.2.2.2.1; have y2 := (hSw.2.cell (p := ⟨b4, i2, none⟩) hb4l).trans HE6.out; go_simp; (try simp only [if_neg hc2])); (try (with_reducible rfl)))
                  try simp only [Act.put, List.setIfInBounds_toArray, List.set_cons_zero, List.set_cons_succ]
                  refine ht_take 1 (v := ?vr_2) rfl (by kernel_rfl) (fun _ _ _ h => h) (Or.inl ⟨by rfl, ?hr_2⟩) hHeld ?rr_2
                  case hr_2 => ((intro U hSw; have y0 : U.cell? ⟨g, 4, none⟩ = some vFn2 := hSw.1.cell 4; have y1 := (HE.out U hSw.2).2.2.2.2.1; have y2 := (hSw.2.cell (p := ⟨b4, i2, none⟩) hb4l).trans HE6.out; go_simp; (try simp only [if_neg hc2])); (try (with_reducible rfl)))
                  try simp only [Act.put, List.setIfInBounds_toArray, List.set_cons_zero, List.set_cons_succ]
                  refine ht_take 2 (v := ?vr_3) rfl (by kernel_rfl) (fun _ _ _ h => h) (Or.inl ⟨by rfl, ?hr_3⟩) hHeld ?rr_3
                  case hr_3 => ((intro U hSw; have y0 : U.cell? ⟨g, 4, none⟩ = some vFn2 := hSw.1.cell 4; have y1 := (HE.out U hSw.2).2.2.2.2.1; have y2 := (hSw.2.cell (p := ⟨b4, i2, none⟩) hb4l).trans HE6.out; go_simp; (try simp only [if_neg hc2])); (try (with_reducible rfl)))
                  try simp only [Act.put, List.setIfInBounds_toArray, List.set_cons_zero, List.set_cons_succ]
                  refine ht_take 3 (v := ?vr_4) rfl (by kernel_rfl) (fun _ _ _ h => h) (Or.inl ⟨by rfl, ?hr_4⟩) hHeld ?rr_4
                  case hr_4 => ((intro U hSw; have y0 : U.cell? ⟨g, 4, none⟩ = some vFn2 := hSw.1.cell 4; have y1 := (HE.out U hSw.2).2.2.2.2.1; have y2 := (hSw.2.cell (p := ⟨b4, i2, none⟩) hb4l).trans HE6.out; go_simp; (try simp only [if_neg hc2])); (try (with_reducible rfl)))
                  try simp only [Act.put, List.setIfInBounds_toArray, List.set_cons_zero, List.set_cons_succ]
                  refine ht_take 4 (v := ?vr_5) rfl (by kernel_rfl) (fun _ _ _ h => h) (Or.inl ⟨by rfl, ?hr_5⟩) hHeld ?rr_5
                  case hr_5 => ((intro U hSw; have y0 : U.cell? ⟨g, 4, none⟩ = some vFn2 := hSw.1.cell 4; have y1 := (HE.out U hSw.2).2.2.2.2.1; have y2 := (hSw.2.cell (p := ⟨b4, i2, none⟩) hb4l).trans HE6.out; go_simp; (try simp only [if_neg hc2])); (try (with_reducible rfl)))
                  try simp only [Act.put, List.setIfInBounds_toArray, List.set_cons_zero, List.set_cons_succ]
                  refine ht_take 5 (v := ?vr_6) rfl (by kernel_rfl) (fun _ _ _ h => h) (Or.inl ⟨by rfl, ?hr_6⟩) hHeld ?rr_6
                  case hr_6 => ((intro U hSw; have y0 : U.cell? ⟨g, 4, none⟩ = some vFn2 := hSw.1.cell 4; have y1 := (HE.out U hSw.2).2.2.2.2.1; have y2 := (hSw.2.cell (p := ⟨b4, i2, none⟩) hb4l).trans HE6.out; go_simp; (try simp only [if_neg hc2])); (try (with_reducible rfl)))
                  try simp only [Act.put, List.setIfInBounds_toArray, List.set_cons_zero, List.set_cons_succ]
                  refine ht_take 6 (v := ?vr_7) rfl (by kernel_rfl) (fun _ _ _ h => h) (Or.inl ⟨by rfl, ?hr_7⟩) hHeld ?rr_7
                  case hr_7 => ((intro U hSw; have y0 : U.cell? ⟨g, 4, none⟩ = some vFn2 := hSw.1.cell 4; have y1 := (HE.out U hSw.2).2.2.2.2.1; have y2 := (hSw.2.cell (p := ⟨b4, i2, none⟩) hb4l).trans HE6.out; go_simp; (try simp only [if_neg hc2])); (try (with_reducible rfl)))
                  try simp only [Act.put, List.setIfInBounds_toArray, List.set_cons_zero, List.set_cons_succ]
                  refine ht_take 7 (v := ?vr_8) rfl (by kernel_rfl) (fun _ _ _ h => h) (Or.inl ⟨by rfl, ?hr_8⟩) hHeld ?rr_8
                  case hr_8 => ((intro U hSw; have y0 : U.cell? ⟨g, 4, none⟩ = some vFn2 := hSw.1.cell 4; have y1 := (HE.out U hSw.2).2.2.2.2.1; have y2 := (hSw.2.cell (p := ⟨b4, i2, none⟩) hb4l).trans HE6.out; go_simp; (try simp only [if_neg hc2])); (try (with_reducible rfl)))
                  try simp only [Act.put, List.setIfInBounds_toArray, List.set_cons_zero, List.set_cons_succ]
                  refine ht_take 8 (v := ?vr_9) rfl (by kernel_rfl) (fun _ _ _ h => h) (Or.inl ⟨by rfl, ?hr_9⟩) hHeld ?rr_9
                  case hr_9 => ((intro U hSw; have y0 : U.cell? ⟨g, 4, none⟩ = some vFn2 := hSw.1.cell 4; have y1 := (HE.out U hSw.2).2.2.2.2.1; have y2 := (hSw.2.cell (p := ⟨b4, i2, none⟩) hb4l).trans HE6.out; go_simp; (try simp only [if_neg hc2])); (try (with_reducible rfl)))
                  try simp only [Act.put, List.setIfInBounds_toArray, List.set_cons_zero, List.set_cons_succ]
                  refine ht_take 9 (v := ?vr_10) rfl (by kernel_rfl) (fun _ _ _ h => h) (Or.inl ⟨by rfl, ?hr_10⟩) hHeld ?rr_10
                  case hr_10 => ((intro U hSw; have y0 : U.cell? ⟨g, 4, none⟩ = some vFn2 := hSw.1.cell 4; have y1 := (HE.out U hSw.2).2.2.2.2.1; have y2 := (hSw.2.cell (p := ⟨b4, i2, none⟩) hb4l).trans HE6.out; go_simp; (try simp only [if_neg hc2])); (try (with_reducible rfl)))
                  try simp only [Act.put, List.setIfInBounds_toArray, List.set_cons_zero, List.set_cons_succ]
                  refine ht_take 10 (v := ?vr_11) rfl (by kernel_rfl) (fun _ _ _ h => h) (Or.inl ⟨by rfl, ?hr_11⟩) hHeld ?rr_11
                  case hr_11 => ((intro U hSw; have y0 : U.cell? ⟨g, 4, none⟩ = some vFn2 := hSw.1.cell 4; have y1 := (HE.out U hSw.2).2.2.2.2.1; have y2 := (hSw.2.cell (p := ⟨b4, i2, none⟩) hb4l).trans HE6.out; go_simp; (try simp only [if_neg hc2])); (try (with_reducible rfl)))
                  try simp only [Act.put, List.setIfInBounds_toArray, List.set_cons_zero, List.set_cons_succ]
                  refine ht_take 11 (v := ?vr_12) rfl (by kernel_rfl) (fun _ _ _ h => h) (Or.inl ⟨by rfl, ?hr_12⟩) hHeld ?rr_12
                  case hr_12 => ((intro U hSw; have y0 : U.cell? ⟨g, 4, none⟩ = some vFn2 := hSw.1.cell 4; have y1 := (HE.out U hSw.2).2.2.2.2.1; have y2 := (hSw.2.cell (p := ⟨b4, i2, none⟩) hb4l).trans HE6.out; go_simp; (try simp only [if_neg hc2])); (try (with_reducible rfl)))
                  try simp only [Act.put, List.setIfInBounds_toArray, List.set_cons_zero, List.set_cons_succ]
                  refine ht_one 12 rfl (by kernel_rfl) (fun K hK => ?_)
                  go_simp
                  refine hK.out _ _ (⟨hHeld.1.alloc _, hHeld.2.alloc hHeld.2.size _⟩) (fun hHeld => ?_)
                  clear hK K
                  try simp only [Act.put, List.setIfInBounds_toArray, List.set_cons_zero, List.set_cons_succ]
                  refine ht_one 13 rfl (by kernel_rfl) (fun K hK => ?_)
                  refine step_append_lies _ (by rfl) (.tmp 84) (.tmp 95) _ (by rfl) V0.heap.size 9 j0 _ 1 16 Try.underlying30 hj0 hy0 hy1 hy2 rfl (by omega) vFn2 fl.length (fl.map .string) (by rfl) ((HV5.out.below (Below.refl _ _).drew).oF.alloc _) ⟨wz.heap.size, 0, none⟩ 1 1 [.string (p ++ sf)] (by rfl) (by rfl) (World.news_of_block (cs := #[.string (p ++ sf)]) (t := 9) (fr := (0, 0)) (heap_alloc_new wz.drew _)) (by simp [Value.oneCell']) (by omega) (by unfold maxLen; omega) (by omega) (by simp; omega) (wz.heap.size + 1) (by simp) ?_
                  intro gA capA w7 hown7 hgrow7 hat7 hlt7
                  refine hK.out _ _ (⟨hHeld.1.grown hgrow7 (Ne.symm (blk_own_ne (HV5.out.oF.alloc _) hHeld.1 (by decide))), hHeld.2.grown hgrow7 hHeld.2.size (fun j hj => by have := (HV5.out.oF.lt j hj).1; omega)⟩) (fun hHeld => ?_)
                  clear hK K
                  try simp only [Act.put, List.setIfInBounds_toArray, List.set_cons_zero, List.set_cons_succ]
                  refine ht_take 14 (v := ?vr_13) rfl (by kernel_rfl) (fun _ _ _ h => h) (Or.inl ⟨by rfl, ?hr_13⟩) hHeld ?rr_13
                  case hr_13 => ((intro U hSw; have y0 : U.cell? ⟨g, 4, none⟩ = some vFn2 := hSw.1.cell 4; have y1 := (HE.out U hSw.2).2.2.2.2.1; have y2 := (hSw.2.cell (p := ⟨b4, i2, none⟩) hb4l).trans HE6.out; go_simp; (try simp only [if_neg hc2])); (try (with_reducible rfl)))
                  try simp only [Act.put, List.setIfInBounds_toArray, List.set_cons_zero, List.set_cons_succ]
                  refine ht_done (by kernel_rfl) rfl ?_
                  have z0 : w7.cell? ⟨g, 4, none⟩ = some vFn2 := hHeld.1.cell 4
                  have z1 := hHeld.1.frozen 4
                  have hV7 := (HV5.out.below (Below.refl _ _).drew).flow hown7 hgrow7 hat7
                  have HV7 := Lib.hid hV7
                  clear hV7
                  go_wp2_with fail
                  go_roundw
                  case rel => exact ⟨i2 + 1, by omega, by go_num, by rw [HST2.out]; exact ⟨_, _, HV7.out⟩⟩
                  case measure => simp [intOf]; omega
                · have hall : (x.flows.take i2).map (p ++ ·) = x.flows.map (p ++ ·) := by rw [List.take_of_length_le (by omega)]
                  have hV5 := HV4.out
                  rw [hall] at hV5
                  obtain ⟨AP, kP, rfl, _, _⟩ := own_slice hV5.oP
                  obtain ⟨AF, kF, rfl, _, _⟩ := own_slice hV5.oF
                  have hlP : (x.parts.map (whoF ms)).length = x.parts.length := by simp
                  have hlF : (x.flows.map (p ++ ·)).length = x.flows.length := by simp
                  have hX5 := HX.out.below hV5.bel
                  have hrow : ∀ g, u7.ownBlock = some g → g < V0.heap.size := fun g hg => (HX.out.own.lt g hg).2
                  have hsub : ∀ b, V0.heap.size ≤ b → w.heap.size ≤ b ∧ u7.ownBlock ≠ some b := fun b hb => ⟨by omega, fun e => by have := hrow b e; omega⟩
                  have hyd : RdPL (fun b => w.heap.size ≤ b ∧ u7.ownBlock ≠ some b) wz (itemC (movedF p ms x)) [.int .i64 x.kind, .string (p ++ x.id), .string fs, .slice AP x.parts.length kP, .slice AF x.flows.length kF, .bool x.loop, .string ⟨#[]⟩, .slice none 0 0, .slice none 0 0, .slice none 0 0] := by
                    unfold movedF
                    rw [← HFS.out]
                    refine rdpl_item (x := ⟨x.kind, p ++ x.id, fs, x.parts.map (whoF ms), x.flows.map (p ++ ·), x.loop, ⟨#[]⟩, [], [], []⟩) ?_ ?_ rdp_nil_maps rdp_nil_itemsV rdp_nil_seqsV
                    · have := rdp_of_own hV5.oP hsub (rdpl_strs (x.parts.map (whoF ms)))
                      rw [hlP] at this
                      unfold strsD datS
                      rw [hlP]
                      exact this
                    · have := rdp_of_own hV5.oF hsub (rdpl_strs (x.flows.map (p ++ ·)))
                      rw [hlF] at this
                      unfold strsD datS
                      rw [hlF]
                      exact this
                  have hb14 := hV5.b
                  rw [hlP, hlF] at hb14
                  have t0_ : wz.cell? ⟨g, 0, none⟩ = some (.int .i64 x.kind) := hb14.cell 0
                  have t1_ : wz.cell? ⟨g, 1, none⟩ = some (.string (p ++ x.id)) := hb14.cell 1
                  have t2_ : wz.cell? ⟨g, 2, none⟩ = some (.string fs) := hb14.cell 2
                  have t3_ : wz.cell? ⟨g, 3, none⟩ = some (.slice AP x.parts.length kP) := hb14.cell 3
                  have t4_ : wz.cell? ⟨g, 4, none⟩ = some (.slice AF x.flows.length kF) := hb14.cell 4
                  have t5_ : wz.cell? ⟨g, 5, none⟩ = some (.bool x.loop) := hb14.cell 5
                  have t6_ : wz.cell? ⟨g, 6, none⟩ = some (.string ⟨#[]⟩) := hb14.cell 6
                  have t7_ : wz.cell? ⟨g, 7, none⟩ = some (.slice none 0 0) := hb14.cell 7
                  have t8_ : wz.cell? ⟨g, 8, none⟩ = some (.slice none 0 0) := hb14.cell 8
                  have t9_ : wz.cell? ⟨g, 9, none⟩ = some (.slice none 0 0) := hb14.cell 9
                  have HX5 := Lib.hid hX5
                  have HYD := Lib.hid hyd
                  clear hall hV5 hlP hlF hX5 hyd hrow hsub hb14 HV4
                  go_wp2_with (at_builtin; refine wpList_append_lies _ rfl (.tmp 98) (.tmp 100) _ rfl w.heap.size 33 i0 _ 10 184 Try.underlying25 hi0 hz0 hz1 hz2 rfl (by omega) u7 outl.length cells rfl (HX5.out.own.alloc _) ⟨wz.heap.size, 0, none⟩ 1 1 [.int .i64 x.kind, .string (p ++ x.id), .string fs, .slice AP x.parts.length kP, .slice AF x.flows.length kF, .bool x.loop, .string ⟨#[]⟩, .slice none 0 0, .slice none 0 0, .slice none 0 0] rfl rfl (World.news_of_block (cs := #[.int .i64 x.kind, .string (p ++ x.id), .string fs, .slice AP x.parts.length kP, .slice AF x.flows.length kF, .bool x.loop, .string ⟨#[]⟩, .slice none 0 0, .slice none 0 0, .slice none 0 0]) (t := 33) (fr := (0, 0)) (heap_alloc_new wz _)) (by simp [Value.oneCell']) (by omega) (by unfold maxLen; omega) (by omega) (by simp; omega) (wz.heap.size + 1) (by simp) ?_)
                  intro gO capO w7 hown7 hgrow7 hat7 hlt7
                  have hX7 := HX5.out.push HYD.out hown7 hgrow7 hat7
                  have HX7 := Lib.hid hX7
                  clear hX7 hown7 hgrow7 hat7
                  go_wp2_with fail
                  go_roundw
                  case rel => exact ⟨k + 1, _, by omega, by go_num, by rw [HST.out]; exact HX7.out⟩
                  case measure => simp [intOf]; omega
    · have hkI : ¬ (k : Int) < (l.length : Int) := by omega
      have hkl : k = l.length := by omega
      have hmt : (l.take k).map (movedF p ms) = l.map (movedF p ms) := by rw [List.take_of_length_le (by omega)]
      rw [hmt] at HX
      clear hmt
      go_wp2_with fail
      go_ret
      obtain ⟨A7, c7, hov, _, _⟩ := own_slice HX.out.own
      have hml : (l.map (movedF p ms)).length = l.length := by simp
      have ho := HX.out.own
      have hr := HX.out.rd
      rw [hov] at ho ⊢
      refine ⟨A7, c7, by rw [hml]; rfl, ?_, HX.out.bel⟩
      have hrd := rdp_of_own (S := fun b => w.heap.size ≤ b) ho (fun _ h => h) (RdPL.keep (fun b hs _ => ⟨rfl, hs.1⟩) _ _ hr)
      rw [← hml]
      exact hrd
end Go.Proofs.Yteoioboiniealaa
