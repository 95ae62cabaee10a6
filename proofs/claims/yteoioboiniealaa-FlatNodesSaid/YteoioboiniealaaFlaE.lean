/- The contract of the maker's level. -/
import Derived.Test.YteoioboiniealaaFlaD
namespace Go.Proofs.Yteoioboiniealaa
open Go.RowKit
attribute [local go_sem ↓] Go.wp_at_zero Go.wp_at_succ

/-- The cells of an element, where only a maker's block has turned. -/
theorem rd_at_kept {α : Type} {w V : World} {e sz m : Nat} {T : TypeId} {cs : Array Value} {f : α → List Dat} (hf : ∀ x, (f x).length = sz) {l : List α} {v : Value} (h : Rd w (datS e sz f l) v) (hg : w.grownBy V (some m)) (hm : Blk w m T cs) (he : e ≠ T) :
    ∃ A c, v = .slice A l.length c ∧ l.length ≤ c ∧ c ≤ maxLen ∧ ∀ (k : Nat) (_ : k < l.length), ∃ b vs, A = some ⟨b, 0, none⟩ ∧ b < V.heap.size ∧ vs.length = sz ∧ RdL w (f l[k]) vs ∧ ∀ j, j < sz → V.cell? ⟨b, k * sz + j, none⟩ = vs[j]? := by
  obtain ⟨A, c, xs, rfl, ho, hl⟩ := rd_sl.1 h
  have ho' := ho.kept hg (.inr (blk_own_ne ho hm he))
  obtain ⟨A', c', hv, h1, h2⟩ := own_slice ho'
  injection hv with e1 _ e3
  subst e1
  subst e3
  refine ⟨A, c, rfl, h1, h2, fun k hk => ?_⟩
  obtain ⟨b, rfl, hb, _, hcell⟩ := own_at ho' (by omega)
  obtain ⟨vs, hlen, hvs, hat⟩ := rdl_at hf k hk hl
  refine ⟨b, vs, rfl, hb, hlen, hvs, fun j hj => ?_⟩
  rw [hcell _ (by
    have : (k + 1) * sz ≤ l.length * sz := Nat.mul_le_mul_right _ hk
    rw [Nat.succ_mul] at this
    omega), hat j hj]
/-- The ends so far, and zeros. -/
def atL (ats : List (Int × Int)) (n : Nat) : List (Int × Int) := ats ++ List.replicate (n - ats.length) (0, 0)
def atC (l : List (Int × Int)) : Array Value := (l.flatMap edgeV).toArray
theorem atL_len {ats : List (Int × Int)} {n : Nat} (h : ats.length ≤ n) : (atL ats n).length = n := by simp [atL]; omega
theorem atL_full {ats : List (Int × Int)} {n : Nat} (h : ats.length = n) : atL ats n = ats := by simp [atL, h]
theorem atL_set {ats : List (Int × Int)} {n : Nat} (h : ats.length < n) (r : Int × Int) : (atL ats n).set ats.length r = atL (ats ++ [r]) n := by
  unfold atL
  obtain ⟨k, hk⟩ : ∃ k, n - ats.length = k + 1 := ⟨n - ats.length - 1, by omega⟩
  rw [hk, List.replicate_succ, List.set_append_right _ _ (Nat.le_refl _), Nat.sub_self, List.set_cons_zero, List.append_assoc]
  simp only [List.length_append, List.length_singleton, List.singleton_append]
  rw [show n - (ats.length + 1) = k by omega]
theorem flat_set : ∀ (l : List (Int × Int)) (i : Nat) (_ : i < l.length) (r : Int × Int), ((l.flatMap edgeV).set (i * 2) (.int .i64 r.1)).set (i * 2 + 1) (.int .i64 r.2) = (l.set i r).flatMap edgeV
  | x :: l, 0, _, r => rfl
  | x :: l, i + 1, h, r => by
    have ih := flat_set l i (by simpa using h) r
    rw [show (i + 1) * 2 = i * 2 + 2 by omega]
    simp only [List.flatMap_cons, edgeV, List.set_cons_succ, List.cons_append, List.nil_append]
    rw [ih]
theorem atC_set {l : List (Int × Int)} {i : Nat} (h : i < l.length) (r : Int × Int) : ((atC l).setIfInBounds (i * 2) (.int .i64 r.1)).setIfInBounds (i * 2 + 1) (.int .i64 r.2) = atC (l.set i r) := by
  unfold atC
  rw [List.setIfInBounds_toArray, List.setIfInBounds_toArray, flat_set l i h r]
theorem flat_get : ∀ (l : List (Int × Int)) (i : Nat) (h : i < l.length), (l.flatMap edgeV)[i * 2]? = some (.int .i64 l[i].1) ∧ (l.flatMap edgeV)[i * 2 + 1]? = some (.int .i64 l[i].2)
  | x :: l, 0, _ => ⟨rfl, rfl⟩
  | x :: l, i + 1, h => by
    have ih := flat_get l i (by simpa using h)
    rw [show (i + 1) * 2 = i * 2 + 2 by omega]
    simp only [List.flatMap_cons, edgeV, List.cons_append, List.nil_append, List.getElem?_cons_succ, List.getElem_cons_succ]
    exact ih
theorem atC_get {W : World} {g : Nat} {l : List (Int × Int)} (hb : Blk W g 97 (atC l)) {i : Nat} (h : i < l.length) : W.cell? ⟨g, i * 2, none⟩ = some (.int .i64 l[i].1) ∧ W.cell? ⟨g, i * 2 + 1, none⟩ = some (.int .i64 l[i].2) := by
  have := flat_get l i h
  rw [hb.cell, hb.cell]
  unfold atC
  rw [List.getElem?_toArray, List.getElem?_toArray]
  exact this
theorem ends_made (n : Nat) : madeCells #[.int .i64 0, .int .i64 0] (n * 2) = atC (List.replicate n (0, 0)) := by
  have h : ∀ n : Nat, (List.replicate n ((0 : Int), (0 : Int))).flatMap edgeV = List.replicate (n * 2) (.int .i64 0) := by
    intro n
    induction n with
    | zero => rfl
    | succ n ih =>
      rw [List.replicate_succ, List.flatMap_cons, ih, show (n + 1) * 2 = n * 2 + 1 + 1 by omega, List.replicate_succ, List.replicate_succ]
      rfl
  unfold atC
  rw [h]
  apply Array.ext
  · simp [size_madeCells]
  · intro i h1 h2
    have h3 : i % 2 = 0 ∨ i % 2 = 1 := by omega
    rcases h3 with h3 | h3 <;> simp [madeCells, h3]
theorem Try.infoEnds : (Try.prog.info? 97).map (fun i => (i.zero, i.size, i.bytes)) = some (some (.agg #[.int .i64 0, .int .i64 0]), 2, 16) := by kernel_rfl
theorem ret_flev {W : World} {g : Nat} {v0 v1 : Value} {tmps : Array Value} (h : Blk W g 97 #[v0, v1]) (ht : tmps.getD 8 undef = .pointer (some ⟨g, 0, none⟩)) :
    (results Try.f40 tmps).run Try.prog W = .ok (.agg #[v0, v1]) W := by
  have x0 : W.cell? ⟨g, 0, none⟩ = some v0 := h.cell 0
  have x1 : W.cell? ⟨g, 1, none⟩ = some v1 := h.cell 1
  simp [results, Try.results40, go_sem, ht, x0, x1, -Array.getD_eq_getD_getElem?]
theorem flev1_len {one : FS → ItemD → Option ((Int × Int) × FS)} : ∀ (l : List ItemD) (ats : List (Int × Int)) (out : Int × Int) (s : FS) (ats' : List (Int × Int)) (out' : Int × Int) (s' : FS), flev1 one l ats out s = some (ats', out', s') → ats'.length = ats.length + l.length
  | [], ats, out, s, ats', out', s', h => by
    unfold flev1 at h
    injection h with h; injection h with h _
    rw [← h]; simp
  | x :: l, ats, out, s, ats', out', s', h => by
    unfold flev1 at h
    split at h
    · cases h
    · have := flev1_len l _ _ _ _ _ _ h
      simp at this ⊢
      omega
/-- The level's own three blocks: its result, the ends of its items, where one comes in and goes out. -/
structure LB (W : World) (gr : Nat) (l : List (Int × Int)) (out : Int × Int) (V : World) : Prop where
  r : Blk V gr 97 #[.int .i64 0, .int .i64 0]
  a : Blk V (gr + 1) 97 (atC l)
  o : Blk V (gr + 1 + 1) 97 #[.int .i64 out.1, .int .i64 out.2]
  ch : ChT [9, 55, 53, 95] W V
theorem LB.step {W V V1 : World} {gr : Nat} {l : List (Int × Int)} {out : Int × Int} {ts : List TypeId} (h : LB W gr l out V) (k : ChT ts V V1) (hs : ∀ t ∈ ts, t ∈ [9, 55, 53, 95]) : LB W gr l out V1 :=
  ⟨h.r.ch (k.mono hs) (by decide), h.a.ch (k.mono hs) (by decide), h.o.ch (k.mono hs) (by decide), h.ch.trans (k.mono hs)⟩
theorem LB.below {W V V1 : World} {gr : Nat} {l : List (Int × Int)} {out : Int × Int} (h : LB W gr l out V) (k : Below V.heap.size V V1) : LB W gr l out V1 := h.step (ts := []) (.of_below k) (by simp)
theorem LB.set_ {W V : World} {gr : Nat} {l : List (Int × Int)} {out : Int × Int} (h : LB W gr l out V) (hg : W.heap.size = gr) {i : Nat} (hi : i < l.length) (r : Int × Int) : LB W gr (l.set i r) out ((V.setCell ⟨gr + 1, i * 2, none⟩ (.int .i64 r.1)).setCell ⟨gr + 1, i * 2 + 1, none⟩ (.int .i64 r.2)) := by
  refine ⟨(h.r.far (by show gr ≠ gr + 1; omega) _).far (by show gr ≠ gr + 1; omega) _, ?_, (h.o.far (by show gr + 1 + 1 ≠ gr + 1; omega) _).far (by show gr + 1 + 1 ≠ gr + 1; omega) _, ch_new _ (ch_new _ h.ch (by omega)) (by omega)⟩
  rw [← atC_set hi]
  exact (h.a.set_ _ _).set_ _ _
theorem LB.out1 {W V : World} {gr : Nat} {l : List (Int × Int)} {out : Int × Int} (h : LB W gr l out V) (hg : W.heap.size = gr) (u : Int) : LB W gr l (u, out.2) (V.setCell ⟨gr + 1 + 1, 0, none⟩ (.int .i64 u)) :=
  ⟨h.r.far (by show gr ≠ gr + 1 + 1; omega) _, h.a.far (by show gr + 1 ≠ gr + 1 + 1; omega) _, h.o.set_ 0 _, ch_new _ h.ch (by omega)⟩
theorem LB.out2 {W V : World} {gr : Nat} {l : List (Int × Int)} {out : Int × Int} (h : LB W gr l out V) (hg : W.heap.size = gr) (u : Int) : LB W gr l (out.1, u) (V.setCell ⟨gr + 1 + 1, 1, none⟩ (.int .i64 u)) :=
  ⟨h.r.far (by show gr ≠ gr + 1 + 1; omega) _, h.a.far (by show gr + 1 ≠ gr + 1 + 1; omega) _, h.o.set_ 1 _, ch_new _ h.ch (by omega)⟩
theorem FW.ends {C : FC} {wB V : World} {m g : Nat} {s : FS} {cs : Array Value} (h : FW C wB m s V) (hb : Blk V g 97 cs) (hw : wB.heap.size ≤ g) (i : Nat) (u : Value) : FW C wB m s (V.setCell ⟨g, i, none⟩ u) := h.end_ hb hw i u
def InE1 (C : FC) (wB W : World) (m gr f : Nat) (within : Bool) (l : List ItemD) (ats' : List (Int × Int)) (out' : Int × Int) (s2 : FS) (iv : Value) (wr : World) : Prop :=
  ∃ (ats : List (Int × Int)) (out : Int × Int) (s1 : FS), ats.length ≤ l.length ∧ iv = .int .i64 ats.length ∧ Hid (flev1 (fitemG (flevF C.ps C.c.flows f true) C.ps C.c.flows within) (l.drop ats.length) ats out s1 = some (ats', out', s2)) ∧ FW C wB m s1 wr ∧ LB W gr (atL ats l.length) out wr
def InE2 (C : FC) (wB W : World) (m gr : Nat) (l : List ItemD) (sq : List SeqD) (ats : List (Int × Int)) (out : Int × Int) (s' : FS) (iv : Value) (wr : World) : Prop :=
  ∃ (j : Nat) (s1 : FS), j ≤ sq.length ∧ iv = .int .i64 j ∧ Hid (flev2 l ats (sq.drop j) s1 = s') ∧ FW C wB m s1 wr ∧ LB W gr ats out wr
set_option maxRecDepth 100000 in
set_option maxHeartbeats 8000000 in
theorem flevel_step {C : FC} {wB : World} {m f : Nat} (hm : m < wB.heap.size) (hd : FD C wB m) (ih : LevelOk C wB m f) : LevelOk C wB m (f + 1) := by
  intro within l sq s r s' W vI vS h hs hF hlm hll hI hS
  unfold flevF at h
  split at h
  · cases h
  rename_i ats' out' s2 h1
  injection h with h
  injection h with h2 h3
  have hl1 := flev1_len _ _ _ _ _ _ _ h1
  rw [List.length_nil, Nat.zero_add] at hl1
  have hs2 : SmallF s2 := hs.le (by rw [← h3]; exact le_flev2 _ _ _ _)
  have hb : ∃ cs, Blk wB m 95 cs := hd.blk
  obtain ⟨AI, cI, rfl, hIl, hIc, _⟩ := rd_at itemC_len hI
  obtain ⟨AQ, cQ, rfl, hQl, hQc, _⟩ := rd_at seqC_len hS
  have hqm : sq.length ≤ maxLen := by omega
  unfold maxLen at hqm
  have hmk : ∀ U : World, (Instr.makeSlice 125 (.int .i64 l.length) (.int .i64 l.length)).run Try.prog U = .ok (.slice (some ⟨U.heap.size, 0, none⟩) l.length l.length) (U.alloc (.cells (atC (List.replicate l.length (0, 0))) 97)) := fun U => by
    obtain ⟨j0, hj0, hy0, hy1, hy2⟩ := info_parts Try.infoEnds
    have h := run_make (P := Try.prog) U 125 97 j0 (.agg #[.int .i64 0, .int .i64 0]) Try.underlying125 hj0 hy0 .i64 .i64 l.length l.length (by omega) (by omega) (by rw [hy2]; omega) (by omega)
    rw [hy1, Int.toNat_natCast] at h
    rw [← ends_made]
    exact h
  have HMK := Lib.hid hmk
  obtain ⟨gr, hgr⟩ : ∃ g, g = W.heap.size := ⟨_, rfl⟩
  obtain ⟨T, hT⟩ : ∃ T, T = ((W.alloc (.cells #[.int .i64 0, .int .i64 0] 97)).alloc (.cells (atC (List.replicate l.length (0, 0))) 97)).alloc (.cells #[.int .i64 (-1), .int .i64 (-1)] 97) := ⟨_, rfl⟩
  have hbT : Below W.heap.size W T := by rw [hT]; exact ((((Below.refl _ _).alloc (Nat.le_refl _) _).alloc (by simp) _).alloc (by simp; omega) _)
  have hLT : LB W gr (atL [] l.length) (-1, -1) T := by
    have e0 : atL [] l.length = List.replicate l.length (0, 0) := by simp [atL]
    rw [e0]
    have k1 := Blk.new W 97 #[.int .i64 0, .int .i64 0]
    have k2 := Blk.new (W.alloc (.cells #[.int .i64 0, .int .i64 0] 97)) 97 (atC (List.replicate l.length (0, 0)))
    have k3 := Blk.new ((W.alloc (.cells #[.int .i64 0, .int .i64 0] 97)).alloc (.cells (atC (List.replicate l.length (0, 0))) 97)) 97 #[.int .i64 (-1), .int .i64 (-1)]
    have z1 : (W.alloc (.cells #[.int .i64 0, .int .i64 0] 97)).heap.size = W.heap.size + 1 := by simp
    have z2 : ((W.alloc (.cells #[.int .i64 0, .int .i64 0] 97)).alloc (.cells (atC (List.replicate l.length (0, 0))) 97)).heap.size = W.heap.size + 1 + 1 := by simp
    rw [z1] at k2
    rw [z2] at k3
    refine ⟨?_, ?_, ?_, .of_below hbT⟩
    · rw [hT, hgr]; exact (k1.alloc _).alloc _
    · rw [hT, hgr]; exact k2.alloc _
    · rw [hT, hgr]; exact k3
  have hFT := hF.below hbT
  have hwg : wB.heap.size ≤ gr := by
    obtain ⟨_, _, _, hX⟩ := hF
    rw [hgr]; exact hX.kept.size
  subst h2
  have HFT := Lib.hid hFT
  have HLT := Lib.hid hLT
  have HD := Lib.hid hd
  have HI := Lib.hid hI
  have HS := Lib.hid hS
  have HT := Lib.hid hT.symm
  have HGR := Lib.hid hgr.symm
  have HIH := Lib.hid ih
  have HH1 := Lib.hid h1
  have HH3 := Lib.hid h3
  have HBK := Lib.hid hb
  clear hF hFT hLT hd hT ih hbT hI hS h1 h3 hmk hb hIc hQc hIl hQl
  go_enter Try.func40, Try.ntmps40
  go_upto_region 1 with fail
  have hmk1 := HMK.out (W.alloc (.cells #[.int .i64 0, .int .i64 0] 97))
  go_upto_region 3 with fail
  rw [HT.out, HGR.out]
  clear hmk1 hgr HT
  go_wp2_with fail
  go_loopw [23] (fun iv wr => InE1 C wB W m gr f within l ats' out' s2 iv wr) (fun iv _ => l.length - (intOf iv).toNat)
  case atStart => exact ⟨[], (-1, -1), s, Nat.zero_le _, rfl, HH1.out, HFT.out, HLT.out⟩
  case round =>
    clear HFT HLT HH1
    obtain ⟨ats, out, s1, hal, rfl, hinv, hF, hL⟩ := hrel
    obtain ⟨V, rfl⟩ : ∃ V, V = wr := ⟨_, rfl⟩
    have HF := Lib.hid hF
    have HL := Lib.hid hL
    obtain ⟨k, hk⟩ : ∃ k, k = ats.length := ⟨_, rfl⟩
    rw [← hk] at hinv hal ⊢
    have HK := Lib.hid hk
    clear hk
    by_cases hlt : k < l.length
    · obtain ⟨cs, hbm⟩ := HBK.out
      obtain ⟨gM, gN, gE, hX⟩ := hF
      obtain ⟨AIx, cIx, hvI, _, _, hat⟩ := rd_at_kept itemC_len HI.out hX.kept hbm (by decide)
      injection hvI with e1 _ e3
      subst e1
      subst e3
      obtain ⟨b, vs, rfl, hb, _, hvs, hcell⟩ := hat k hlt
      obtain ⟨x, hx⟩ : ∃ x, x = l[k] := ⟨_, rfl⟩
      have hd : l.drop k = x :: l.drop (k + 1) := by rw [hx]; exact List.drop_eq_getElem_cons hlt
      rw [← hx] at hvs
      obtain ⟨v3, v4, v7, v8, v9, rfl, h3, h4, h7, h8, h9⟩ := rd_itemC.1 hvs
      obtain ⟨A3, c3, rfl⟩ := rd_form h3
      obtain ⟨A4, c4, rfl⟩ := rd_form h4
      obtain ⟨A7, c7, rfl⟩ := rd_form h7
      obtain ⟨A8, c8, rfl⟩ := rd_form h8
      obtain ⟨A9, c9, rfl⟩ := rd_form h9
      have hi := hinv.out
      rw [hd] at hi
      unfold flev1 at hi
      split at hi
      · cases hi
      rename_i rx sx hone
      have hsx : SmallF sx := hs2.le (le_flev1 (fun s i r s' h => le_item (le_flev C.ps C.c.flows f true) h) _ _ _ _ _ _ _ hi)
      have e0 : V.cell? ⟨b, k * 10, none⟩ = some (.int .i64 x.kind) := hcell 0 (by omega)
      have e1 : V.cell? ⟨b, k * 10 + 1, none⟩ = some (.string x.id) := hcell 1 (by omega)
      have e2 : V.cell? ⟨b, k * 10 + 2, none⟩ = some (.string x.first) := hcell 2 (by omega)
      have e3 : V.cell? ⟨b, k * 10 + 3, none⟩ = some (.slice A3 x.parts.length c3) := hcell 3 (by omega)
      have e4 : V.cell? ⟨b, k * 10 + 4, none⟩ = some (.slice A4 x.flows.length c4) := hcell 4 (by omega)
      have e5 : V.cell? ⟨b, k * 10 + 5, none⟩ = some (.bool x.loop) := hcell 5 (by omega)
      have e6 : V.cell? ⟨b, k * 10 + 6, none⟩ = some (.string x.called) := hcell 6 (by omega)
      have e7 : V.cell? ⟨b, k * 10 + 7, none⟩ = some (.slice A7 x.maps.length c7) := hcell 7 (by omega)
      have e8 : V.cell? ⟨b, k * 10 + 8, none⟩ = some (.slice A8 x.items.length c8) := hcell 8 (by omega)
      have e9 : V.cell? ⟨b, k * 10 + 9, none⟩ = some (.slice A9 x.seqs.length c9) := hcell 9 (by omega)
      obtain ⟨gx, hgx⟩ : ∃ g, g = V.heap.size := ⟨_, rfl⟩
      obtain ⟨T1, hT1⟩ : ∃ T, T = V.alloc (.cells #[.int .i64 x.kind, .string x.id, .string x.first, .slice A3 x.parts.length c3, .slice A4 x.flows.length c4, .bool x.loop, .string x.called, .slice A7 x.maps.length c7, .slice A8 x.items.length c8, .slice A9 x.seqs.length c9] 33) := ⟨_, rfl⟩
      have bT1 : Below V.heap.size V T1 := by rw [hT1]; exact (Below.refl _ _).alloc (Nat.le_refl _) _
      have hbx : Blk T1 gx 33 #[.int .i64 x.kind, .string x.id, .string x.first, .slice A3 x.parts.length c3, .slice A4 x.flows.length c4, .bool x.loop, .string x.called, .slice A7 x.maps.length c7, .slice A8 x.items.length c8, .slice A9 x.seqs.length c9] := by rw [hT1, hgx]; exact Blk.new _ _ _
      have hF1 := HF.out.below bT1
      have hL1 := HL.out.below bT1
      have hcall := fitem_any (W := T1) hm HD.out HIH.out x (lenL_all.1 hll x (by rw [hx]; exact List.getElem_mem hlt)) within ⟨h3, h4, h7, h8, h9⟩ hone hsx hF1
      have HCALL := Lib.hid hcall
      have HF1 := Lib.hid hF1
      have HL1 := Lib.hid hL1
      have HBX := Lib.hid hbx
      have HI1 := Lib.hid hi
      have HT1 := Lib.hid hT1.symm
      have HGX := Lib.hid hgx.symm
      have hkI : (k : Int) < (l.length : Int) := by omega
      clear hX hat hvs hcell hx hd h3 h4 h7 h8 h9 hinv hi hone hsx hT1 hgx bT1 hbx hF1 hL1 hcall hL hbm
      go_upto_region 6 with fail
      rw [HT1.out, HGX.out]
      clear e0 e1 e2 e3 e4 e5 e6 e7 e8 e9 HT1
      have x0 : T1.cell? ⟨gx, 0, none⟩ = some (.int .i64 x.kind) := HBX.out.cell 0
      have x1 : T1.cell? ⟨gx, 1, none⟩ = some (.string x.id) := HBX.out.cell 1
      have x2 : T1.cell? ⟨gx, 2, none⟩ = some (.string x.first) := HBX.out.cell 2
      have x3 : T1.cell? ⟨gx, 3, none⟩ = some (.slice A3 x.parts.length c3) := HBX.out.cell 3
      have x4 : T1.cell? ⟨gx, 4, none⟩ = some (.slice A4 x.flows.length c4) := HBX.out.cell 4
      have x5 : T1.cell? ⟨gx, 5, none⟩ = some (.bool x.loop) := HBX.out.cell 5
      have x6 : T1.cell? ⟨gx, 6, none⟩ = some (.string x.called) := HBX.out.cell 6
      have x7 : T1.cell? ⟨gx, 7, none⟩ = some (.slice A7 x.maps.length c7) := HBX.out.cell 7
      have x8 : T1.cell? ⟨gx, 8, none⟩ = some (.slice A8 x.items.length c8) := HBX.out.cell 8
      have x9 : T1.cell? ⟨gx, 9, none⟩ = some (.slice A9 x.seqs.length c9) := HBX.out.cell 9
      go_wp2_with fail
      refine HCALL.out.mono ?_
      rintro e w3 ⟨rfl, hF3, hc3⟩
      have hbx3 := HBX.out.ch hc3 (by decide)
      have hL3 := HL1.out.step hc3 (by decide)
      have hat3 := hL3.a.lt
      have hk := HK.out
      have ga0 : ∃ u, w3.cell? ⟨gr + 1, k * 2, none⟩ = some u := ⟨_, (atC_get (i := k) hL3.a (by rw [atL_len (by omega)]; exact hlt)).1⟩
      have ga1 : ∃ u, w3.cell? ⟨gr + 1, k * 2 + 1, none⟩ = some u := ⟨_, (atC_get (i := k) hL3.a (by rw [atL_len (by omega)]; exact hlt)).2⟩
      obtain ⟨u0, ga0⟩ := ga0
      obtain ⟨u1, ga1⟩ := ga1
      have gf0 : w3.frozen? ⟨gr + 1, k * 2, none⟩ = false := hL3.a.frozen _
      have gf1 : w3.frozen? ⟨gr + 1, k * 2 + 1, none⟩ = false := hL3.a.frozen _
      have hL4 := hL3.set_ HGR.out (i := k) (by rw [atL_len (by omega)]; exact hlt) rx
      rw [hk, atL_set (by omega) rx, ← hk] at hL4
      clear hk
      have hF4 := (hF3.ends hL3.a (by omega) (k * 2) (.int .i64 rx.1)).ends (hL3.a.set_ _ _) (by omega) (k * 2 + 1) (.int .i64 rx.2)
      have hb4 := (hbx3.far (p := ⟨gr + 1, k * 2, none⟩) (by show gx ≠ gr + 1; have := HL.out.a.lt; have := HGX.out; omega) (.int .i64 rx.1)).far (p := ⟨gr + 1, k * 2 + 1, none⟩) (by show gx ≠ gr + 1; have := HL.out.a.lt; have := HGX.out; omega) (.int .i64 rx.2)
      obtain ⟨V4, hV4⟩ : ∃ V', V' = ((w3.setCell ⟨gr + 1, k * 2, none⟩ (.int .i64 rx.1)).setCell ⟨gr + 1, k * 2 + 1, none⟩ (.int .i64 rx.2)) := ⟨_, rfl⟩
      rw [← hV4] at hL4 hF4 hb4
      have HL4 := Lib.hid hL4
      have HF4 := Lib.hid hF4
      have HB4 := Lib.hid hb4
      have HV4 := Lib.hid hV4.symm
      clear hL3 hF3 hbx3 hL4 hF4 hb4 hV4 hc3 HF1 HL1 HBX HF HL x0 x1 x2 x3 x4 x5 x6 x7 x8 x9 HCALL
      go_upto_region 7 with fail
      rw [HV4.out]
      clear ga0 ga1 gf0 gf1 HV4 hat3
      have x0 : V4.cell? ⟨gx, 0, none⟩ = some (.int .i64 x.kind) := HB4.out.cell 0
      have hk := HK.out
      have hgt : ats.length + 1 ≤ l.length := by omega
      have hz : k < (ats ++ [rx]).length := by simp; omega
      have hget := atC_get (i := k) HL4.out.a (by rw [atL_len (by simp; omega)]; exact hlt)
      have hge : (atL (ats ++ [rx]) l.length)[k]'(by rw [atL_len (by simp; omega)]; exact hlt) = rx := by
        simp [atL, hk]
      rw [hge] at hget
      obtain ⟨y0, y1⟩ := hget
      have o0 : V4.cell? ⟨gr + 1 + 1, 0, none⟩ = some (.int .i64 out.1) := HL4.out.o.cell 0
      have o1 : V4.cell? ⟨gr + 1 + 1, 1, none⟩ = some (.int .i64 out.2) := HL4.out.o.cell 1
      have q0 : V4.frozen? ⟨gr + 1 + 1, 0, none⟩ = false := HL4.out.o.frozen 0
      have q1 : V4.frozen? ⟨gr + 1 + 1, 1, none⟩ = false := HL4.out.o.frozen 1
      have hol := HL4.out.o.lt
      have hal4 := HL4.out.a.lt
      have hlen1 : (ats ++ [rx]).length = k + 1 := by simp [hk]
      have HLEN1 := Lib.hid hlen1
      clear hge hz hgt hk hlen1
      by_cases k1 : x.kind = 1
      · have hb1 : (x.kind == 1) = true := by simp [k1]
        have hb2 : (x.kind == 2) = false := by simp [k1]
        have ho : outF x rx out = (rx.1, out.2) := by unfold outF; rw [if_pos k1]
        have hL5 := HL4.out.out1 HGR.out rx.1
        have hF5 := HF4.out.ends HL4.out.o (by omega) 0 (.int .i64 rx.1)
        rw [← ho] at hL5
        have HL5 := Lib.hid hL5
        have HF5 := Lib.hid hF5
        clear k1 ho hL5 hF5
        go_wp2_with fail
        go_roundw
        case rel => exact ⟨ats ++ [rx], outF x rx out, sx, by rw [HLEN1.out]; omega, by rw [HLEN1.out]; go_num, by rw [HLEN1.out]; exact HI1, HF5.out, HL5.out⟩
        case measure => simp [intOf]; omega
      · by_cases k2 : x.kind = 2
        · have hb1 : (x.kind == 1) = false := by simp [k1]
          have hb2 : (x.kind == 2) = true := by simp [k2]
          have ho : outF x rx out = (out.1, rx.2) := by unfold outF; rw [if_neg k1, if_pos k2]
          have hL5 := HL4.out.out2 HGR.out rx.2
          have hF5 := HF4.out.ends HL4.out.o (by omega) 1 (.int .i64 rx.2)
          rw [← ho] at hL5
          have HL5 := Lib.hid hL5
          have HF5 := Lib.hid hF5
          clear k1 k2 ho hL5 hF5
          go_wp2_with fail
          go_roundw
          case rel => exact ⟨ats ++ [rx], outF x rx out, sx, by rw [HLEN1.out]; omega, by rw [HLEN1.out]; go_num, by rw [HLEN1.out]; exact HI1, HF5.out, HL5.out⟩
          case measure => simp [intOf]; omega
        · have hb1 : (x.kind == 1) = false := by simp [k1]
          have hb2 : (x.kind == 2) = false := by simp [k2]
          have ho : outF x rx out = out := by unfold outF; rw [if_neg k1, if_neg k2]
          have HO := Lib.hid ho
          clear k1 k2 ho
          go_wp2_with fail
          go_roundw
          case rel => exact ⟨ats ++ [rx], outF x rx out, sx, by rw [HLEN1.out]; omega, by rw [HLEN1.out]; go_num, by rw [HLEN1.out]; exact HI1, HF4.out, by rw [HO.out]; exact HL4.out⟩
          case measure => simp [intOf]; omega
    · have hk := HK.out
      have hkl : k = l.length := by omega
      have hi := hinv.out
      rw [hkl, List.drop_length] at hi
      unfold flev1 at hi
      injection hi with hi
      injection hi with hi1 hi
      injection hi with hi2 hi3
      subst hi1
      subst hi2
      subst hi3
      rw [atL_full (by omega)] at hL
      have HL := Lib.hid hL
      clear hinv hF hL hk hkl
      go_wp2_with fail
      go_loopw [56] (fun iv wr => InE2 C wB W m gr l sq ats out s' iv wr) (fun iv _ => sq.length - (intOf iv).toNat)
      case atStart => exact ⟨0, s1, Nat.zero_le _, rfl, HH3.out, HF.out, HL.out⟩
      case round =>
        clear HF HL
        obtain ⟨j, t, hj, rfl, hinv, hF, hL⟩ := hrel
        obtain ⟨V2, rfl⟩ : ∃ V, V = wr := ⟨_, rfl⟩
        have HF := Lib.hid hF
        have HL := Lib.hid hL
        by_cases hlt : j < sq.length
        · obtain ⟨cs, hbm⟩ := HBK.out
          obtain ⟨gM, gN, gE, hX⟩ := hF
          obtain ⟨AQx, cQx, hvQ, _, _, hat⟩ := rd_at_kept seqC_len HS.out hX.kept hbm (by decide)
          injection hvQ with e1 _ e3
          subst e1
          subst e3
          obtain ⟨b, vs, rfl, hb, _, hvs, hcell⟩ := hat j hlt
          obtain ⟨q, hq⟩ : ∃ q, q = sq[j] := ⟨_, rfl⟩
          have hd : sq.drop j = q :: sq.drop (j + 1) := by rw [hq]; exact List.drop_eq_getElem_cons hlt
          rw [← hq] at hvs
          obtain rfl := rd_seqC hvs
          have hi := hinv.out
          rw [hd] at hi
          unfold flev2 at hi
          have hsz : SmallF (fedge l ats q t) := hs.le (by rw [← hi]; exact le_flev2 _ _ _ _)
          have hitems := hX.items HD.out HI.out
          have e0 : V2.cell? ⟨b, j * 3, none⟩ = some (.string q.id) := hcell 0 (by omega)
          have e1 : V2.cell? ⟨b, j * 3 + 1, none⟩ = some (.string q.src) := hcell 1 (by omega)
          have e2 : V2.cell? ⟨b, j * 3 + 2, none⟩ = some (.string q.dst) := hcell 2 (by omega)
          obtain ⟨gq, hgq⟩ : ∃ g, g = V2.heap.size := ⟨_, rfl⟩
          obtain ⟨T1, hT1⟩ : ∃ T, T = V2.alloc (.cells #[.string q.id, .string q.src, .string q.dst] 36) := ⟨_, rfl⟩
          have bT1 : Below V2.heap.size V2 T1 := by rw [hT1]; exact (Below.refl _ _).alloc (Nat.le_refl _) _
          have hbq : Blk T1 gq 36 #[.string q.id, .string q.src, .string q.dst] := by rw [hT1, hgq]; exact Blk.new _ _ _
          have hF1 := HF.out.below bT1
          have hL1 := HL.out.below bT1
          have hit1 := Rd.below bT1 _ _ hitems
          have HF1 := Lib.hid hF1
          have HL1 := Lib.hid hL1
          have HBQ := Lib.hid hbq
          have HIT1 := Lib.hid hit1
          have HI1 := Lib.hid hi
          have HT1 := Lib.hid hT1.symm
          have HGQ := Lib.hid hgq.symm
          have hjI : (j : Int) < (sq.length : Int) := by omega
          obtain ⟨a, ha⟩ : ∃ a, a = findFrom (fun x : ItemD => eqS x.id q.src) l 0 := ⟨_, rfl⟩
          obtain ⟨z, hz⟩ : ∃ z, z = findFrom (fun x : ItemD => eqS x.id q.dst) l 0 := ⟨_, rfl⟩
          have hina := findFrom_inF (fun x : ItemD => eqS x.id q.src) l 0
          have hinz := findFrom_inF (fun x : ItemD => eqS x.id q.dst) l 0
          rw [← ha] at hina
          rw [← hz] at hinz
          have hfe : fedge l ats q t = if a < 0 ∨ z < 0 ∨ (ats.getD a.toNat (0, 0)).2 < 0 ∨ (ats.getD z.toNat (0, 0)).1 < 0 then noneF t else ⟨t.msgs, t.nodes, t.edges ++ [((ats.getD a.toNat (0, 0)).2, (ats.getD z.toNat (0, 0)).1)], t.e⟩ := by rw [ha, hz]; rfl
          have HINA := Lib.hid hina
          have HINZ := Lib.hid hinz
          have HFE := Lib.hid hfe
          have HA := Lib.hid ha
          have HZ := Lib.hid hz
          have HSZ := Lib.hid hsz
          clear hX hat hvs hcell hq hd hinv hi hitems hT1 hgq bT1 hbq hF1 hL1 hit1 hbm ha hz hina hinz hfe hL hsz
          go_upto_region 16 with fail
          rw [HT1.out, HGQ.out]
          clear e0 e1 e2 HT1
          refine wp_region_HT 8 (fun U => Below T1.heap.size T1 U) (by kernel_rfl) (by decide) ((Below.refl _ _).drew) (fun hHeld => ?_)
          refine ht_take 0 (v := ?vs_1) rfl (by kernel_rfl) (fun _ _ _ h => h) (Or.inl ⟨by rfl, ?hs_1⟩) hHeld ?rs_1
          case hs_1 => ((intro U hSw; have hkq := HBQ.out.below hSw HBQ.out.lt; have z1 : U.cell? ⟨gq, 1, none⟩ = some (.string q.src) := hkq.cell 1; have z2 : U.cell? ⟨gq, 2, none⟩ = some (.string q.dst) := hkq.cell 2; clear hkq; go_simp); (try (with_reducible rfl)))
          try simp only [Act.put, List.setIfInBounds_toArray, List.set_cons_zero, List.set_cons_succ]
          refine ht_take 1 (v := ?vs_2) rfl (by kernel_rfl) (fun _ _ _ h => h) (Or.inl ⟨by rfl, ?hs_2⟩) hHeld ?rs_2
          case hs_2 => ((intro U hSw; have hkq := HBQ.out.below hSw HBQ.out.lt; have z1 : U.cell? ⟨gq, 1, none⟩ = some (.string q.src) := hkq.cell 1; have z2 : U.cell? ⟨gq, 2, none⟩ = some (.string q.dst) := hkq.cell 2; clear hkq; go_simp); (try (with_reducible rfl)))
          try simp only [Act.put, List.setIfInBounds_toArray, List.set_cons_zero, List.set_cons_succ]
          refine ht_take 2 (v := ?vs_3) rfl (by kernel_rfl) (fun _ _ _ h => h) (Or.inl ⟨by rfl, ?hs_3⟩) hHeld ?rs_3
          case hs_3 => ((intro U hSw; have hkq := HBQ.out.below hSw HBQ.out.lt; have z1 : U.cell? ⟨gq, 1, none⟩ = some (.string q.src) := hkq.cell 1; have z2 : U.cell? ⟨gq, 2, none⟩ = some (.string q.dst) := hkq.cell 2; clear hkq; go_simp); (try (with_reducible rfl)))
          try simp only [Act.put, List.setIfInBounds_toArray, List.set_cons_zero, List.set_cons_succ]
          refine ht_take 4 (v := ?vs_4) rfl (by kernel_rfl) (fun _ _ _ h => h) (Or.inl ⟨by rfl, ?hs_4⟩) hHeld ?rs_4
          case hs_4 => ((intro U hSw; have hkq := HBQ.out.below hSw HBQ.out.lt; have z1 : U.cell? ⟨gq, 1, none⟩ = some (.string q.src) := hkq.cell 1; have z2 : U.cell? ⟨gq, 2, none⟩ = some (.string q.dst) := hkq.cell 2; clear hkq; go_simp); (try (with_reducible rfl)))
          try simp only [Act.put, List.setIfInBounds_toArray, List.set_cons_zero, List.set_cons_succ]
          refine ht_take 5 (v := ?vs_5) rfl (by kernel_rfl) (fun _ _ _ h => h) (Or.inl ⟨by rfl, ?hs_5⟩) hHeld ?rs_5
          case hs_5 => ((intro U hSw; have hkq := HBQ.out.below hSw HBQ.out.lt; have z1 : U.cell? ⟨gq, 1, none⟩ = some (.string q.src) := hkq.cell 1; have z2 : U.cell? ⟨gq, 2, none⟩ = some (.string q.dst) := hkq.cell 2; clear hkq; go_simp); (try (with_reducible rfl)))
          try simp only [Act.put, List.setIfInBounds_toArray, List.set_cons_zero, List.set_cons_succ]
          refine ht_take 6 (v := ?vs_6) rfl (by kernel_rfl) (fun _ _ _ h => h) (Or.inl ⟨by rfl, ?hs_6⟩) hHeld ?rs_6
          case hs_6 => ((intro U hSw; have hkq := HBQ.out.below hSw HBQ.out.lt; have z1 : U.cell? ⟨gq, 1, none⟩ = some (.string q.src) := hkq.cell 1; have z2 : U.cell? ⟨gq, 2, none⟩ = some (.string q.dst) := hkq.cell 2; clear hkq; go_simp); (try (with_reducible rfl)))
          try simp only [Act.put, List.setIfInBounds_toArray, List.set_cons_zero, List.set_cons_succ]
          refine ht_one 3 rfl (by kernel_rfl) (fun K hK => ?_)
          go_simp
          refine (idsItem_any q.src (Rd.below hHeld _ _ HIT1.out)).mono ?_
          rintro e wsrc ⟨rfl, hbsrc⟩
          rw [← HA.out]
          go_wp2_with fail
          refine hK.out _ _ (hHeld.trans (hbsrc.mono hHeld.size)) (fun hHeld => ?_)
          clear hK K
          try simp only [Act.put, List.setIfInBounds_toArray, List.set_cons_zero, List.set_cons_succ]
          refine ht_one 7 rfl (by kernel_rfl) (fun K hK => ?_)
          go_simp
          refine (idsItem_any q.dst (Rd.below hHeld _ _ HIT1.out)).mono ?_
          rintro e wdst ⟨rfl, hbdst⟩
          rw [← HZ.out]
          go_wp2_with fail
          refine hK.out _ _ (hHeld.trans (hbdst.mono hHeld.size)) (fun hHeld => ?_)
          clear hK K
          try simp only [Act.put, List.setIfInBounds_toArray, List.set_cons_zero, List.set_cons_succ]
          refine ht_done (by kernel_rfl) rfl ?_
          have hF2 := HF1.out.below hHeld
          have hL2 := HL1.out.below hHeld
          obtain ⟨V3, hV3⟩ : ∃ V, V = wdst := ⟨_, rfl⟩
          rw [← hV3] at hF2 hL2 ⊢
          have HF2 := Lib.hid hF2
          have HL2 := Lib.hid hL2
          clear hF2 hL2 hHeld hbsrc hbdst hV3 HF1 HL1 HIT1
          go_upto_region 17 with fail
          by_cases ha0 : a < 0
          · have hfe := HFE.out
            rw [if_pos (.inl ha0)] at hfe
            have hi := HI1.out
            rw [hfe] at hi
            have HI2 := Lib.hid hi
            obtain ⟨gM, gN, gE, hX⟩ := HF2.out
            have y9 : V3.cell? ⟨m, 9, none⟩ = some (.int .i64 t.e) := hX.b.cell 9
            have q9 : V3.frozen? ⟨m, 9, none⟩ = false := hX.b.frozen 9
            have hml := hX.b.lt
            have hX3 := hX.none_ hm
            have hL3 := HL2.out.step (hX.none_ch [95] (by decide)) (by decide)
            have HX3 := Lib.hid hX3
            have HL3 := Lib.hid hL3
            clear hX hX3 hL3 hfe hi HINA HINZ
            go_wp2_with fail
            go_roundw
            case rel => exact ⟨j + 1, noneF t, by omega, by go_num, HI2, ⟨_, _, _, HX3.out⟩, HL3.out⟩
            case measure => simp [intOf]; omega
          · obtain ⟨ia, hia, haq⟩ := HINA.out (by omega)
            rw [Nat.zero_add] at haq
            by_cases hz0 : z < 0
            · subst haq
              have hfe := HFE.out
              rw [if_pos (.inr (.inl hz0))] at hfe
              have hi := HI1.out
              rw [hfe] at hi
              have HI2 := Lib.hid hi
              obtain ⟨gM, gN, gE, hX⟩ := HF2.out
              have y9 : V3.cell? ⟨m, 9, none⟩ = some (.int .i64 t.e) := hX.b.cell 9
              have q9 : V3.frozen? ⟨m, 9, none⟩ = false := hX.b.frozen 9
              have hml := hX.b.lt
              have hX3 := hX.none_ hm
              have hL3 := HL2.out.step (hX.none_ch [95] (by decide)) (by decide)
              have HX3 := Lib.hid hX3
              have HL3 := Lib.hid hL3
              clear hX hX3 hL3 hfe hi HINA HINZ
              go_wp2_with fail
              go_roundw
              case rel => exact ⟨j + 1, noneF t, by omega, by go_num, HI2, ⟨_, _, _, HX3.out⟩, HL3.out⟩
              case measure => simp [intOf]; omega
            · obtain ⟨iz, hiz, hzq⟩ := HINZ.out (by omega)
              rw [Nat.zero_add] at hzq
              have hga := atC_get (i := ia) HL2.out.a (by omega)
              have hgz := atC_get (i := iz) HL2.out.a (by omega)
              have hda : ats.getD a.toNat (0, 0) = ats[ia]'(by omega) := by rw [haq, Int.toNat_natCast, List.getD_eq_getElem?_getD, List.getElem?_eq_getElem (by omega), Option.getD_some]
              have hdz : ats.getD z.toNat (0, 0) = ats[iz]'(by omega) := by rw [hzq, Int.toNat_natCast, List.getD_eq_getElem?_getD, List.getElem?_eq_getElem (by omega), Option.getD_some]
              obtain ⟨ra, hra⟩ : ∃ r, r = ats[ia]'(by omega) := ⟨_, rfl⟩
              obtain ⟨rz, hrz⟩ : ∃ r, r = ats[iz]'(by omega) := ⟨_, rfl⟩
              have hfe := HFE.out
              rw [hda, hdz, ← hra, ← hrz] at hfe
              rw [← hra] at hga
              rw [← hrz] at hgz
              have HFE := Lib.hid hfe
              obtain ⟨ya0, ya1⟩ := hga
              obtain ⟨yz0, yz1⟩ := hgz
              have hiaI : (ia : Int) < (l.length : Int) := by omega
              have hizI : (iz : Int) < (l.length : Int) := by omega
              have hal := HL2.out.a.lt
              subst haq
              subst hzq
              clear hda hdz hra hrz hfe
              by_cases h1 : ra.2 < 0
              · have hfe := HFE.out
                rw [if_pos (.inr (.inr (.inl h1)))] at hfe
                have hi := HI1.out
                rw [hfe] at hi
                have HI2 := Lib.hid hi
                obtain ⟨gM, gN, gE, hX⟩ := HF2.out
                have y9 : V3.cell? ⟨m, 9, none⟩ = some (.int .i64 t.e) := hX.b.cell 9
                have q9 : V3.frozen? ⟨m, 9, none⟩ = false := hX.b.frozen 9
                have hml := hX.b.lt
                have hX3 := hX.none_ hm
                have hL3 := HL2.out.step (hX.none_ch [95] (by decide)) (by decide)
                have HX3 := Lib.hid hX3
                have HL3 := Lib.hid hL3
                clear hX hX3 hL3 hfe hi HINA HINZ
                go_wp2_with fail
                go_roundw
                case rel => exact ⟨j + 1, noneF t, by omega, by go_num, HI2, ⟨_, _, _, HX3.out⟩, HL3.out⟩
                case measure => simp [intOf]; omega
              · by_cases h2 : rz.1 < 0
                · have hfe := HFE.out
                  rw [if_pos (.inr (.inr (.inr h2)))] at hfe
                  have hi := HI1.out
                  rw [hfe] at hi
                  have HI2 := Lib.hid hi
                  obtain ⟨gM, gN, gE, hX⟩ := HF2.out
                  have y9 : V3.cell? ⟨m, 9, none⟩ = some (.int .i64 t.e) := hX.b.cell 9
                  have q9 : V3.frozen? ⟨m, 9, none⟩ = false := hX.b.frozen 9
                  have hml := hX.b.lt
                  have hX3 := hX.none_ hm
                  have hL3 := HL2.out.step (hX.none_ch [95] (by decide)) (by decide)
                  have HX3 := Lib.hid hX3
                  have HL3 := Lib.hid hL3
                  clear hX hX3 hL3 hfe hi HINA HINZ
                  go_wp2_with fail
                  go_roundw
                  case rel => exact ⟨j + 1, noneF t, by omega, by go_num, HI2, ⟨_, _, _, HX3.out⟩, HL3.out⟩
                  case measure => simp [intOf]; omega
                · have hfe := HFE.out
                  rw [if_neg (by intro h; rcases h with h | h | h | h <;> contradiction)] at hfe
                  have hi := HI1.out
                  have hsz := HSZ.out.edges
                  rw [hfe] at hi hsz
                  rw [List.length_append] at hsz
                  have hel : t.edges.length ≤ 1000000 := by omega
                  have HI2 := Lib.hid hi
                  obtain ⟨gM, gN, gE, hX⟩ := HF2.out
                  obtain ⟨AE, cE, rfl, _, _⟩ := own_slice hX.oE
                  have HX := Lib.hid hX
                  obtain ⟨i0, hi0, hz0', hz1, hz2⟩ := info_parts Try.infoEdge
                  have hml := hX.b.lt
                  have hVB := hX.kept.size
                  clear hfe hi hX hsz HINA HINZ
                  go_upto_region 19 with fail
                  refine wp_region_HT 22 (fun U => Blk U m 95 (C.cells gM gN (.slice AE t.edges.length cE) t.e) ∧ Blk U (gr + 1) 97 (atC ats)) (by kernel_rfl) (by decide) (⟨HX.out.b, HL2.out.a⟩) (fun hHeld => ?_)
                  refine ht_take 0 (v := ?ve_1) rfl (by kernel_rfl) (fun _ _ _ h => h) (Or.inl ⟨by rfl, ?he_1⟩) hHeld ?re_1
                  case he_1 => ((intro U hSw; have y8 : U.cell? ⟨m, 8, none⟩ = some (.slice AE t.edges.length cE) := hSw.1.cell 8; have ua : U.cell? ⟨gr + 1, ia * 2 + 1, none⟩ = some (.int .i64 ra.2) := (hSw.2.cell _).trans ((HL2.out.a.cell _).symm.trans ya1); have uz : U.cell? ⟨gr + 1, iz * 2, none⟩ = some (.int .i64 rz.1) := (hSw.2.cell _).trans ((HL2.out.a.cell _).symm.trans yz0); go_simp); (try (with_reducible rfl)))
                  try simp only [Act.put, List.setIfInBounds_toArray, List.set_cons_zero, List.set_cons_succ]
                  refine ht_take 1 (v := ?ve_2) rfl (by kernel_rfl) (fun _ _ _ h => h) (Or.inl ⟨by rfl, ?he_2⟩) hHeld ?re_2
                  case he_2 => ((intro U hSw; have y8 : U.cell? ⟨m, 8, none⟩ = some (.slice AE t.edges.length cE) := hSw.1.cell 8; have ua : U.cell? ⟨gr + 1, ia * 2 + 1, none⟩ = some (.int .i64 ra.2) := (hSw.2.cell _).trans ((HL2.out.a.cell _).symm.trans ya1); have uz : U.cell? ⟨gr + 1, iz * 2, none⟩ = some (.int .i64 rz.1) := (hSw.2.cell _).trans ((HL2.out.a.cell _).symm.trans yz0); go_simp); (try (with_reducible rfl)))
                  try simp only [Act.put, List.setIfInBounds_toArray, List.set_cons_zero, List.set_cons_succ]
                  refine ht_take 2 (v := ?ve_3) rfl (by kernel_rfl) (fun _ _ _ h => h) (Or.inl ⟨by rfl, ?he_3⟩) hHeld ?re_3
                  case he_3 => ((intro U hSw; have y8 : U.cell? ⟨m, 8, none⟩ = some (.slice AE t.edges.length cE) := hSw.1.cell 8; have ua : U.cell? ⟨gr + 1, ia * 2 + 1, none⟩ = some (.int .i64 ra.2) := (hSw.2.cell _).trans ((HL2.out.a.cell _).symm.trans ya1); have uz : U.cell? ⟨gr + 1, iz * 2, none⟩ = some (.int .i64 rz.1) := (hSw.2.cell _).trans ((HL2.out.a.cell _).symm.trans yz0); go_simp); (try (with_reducible rfl)))
                  try simp only [Act.put, List.setIfInBounds_toArray, List.set_cons_zero, List.set_cons_succ]
                  refine ht_take 3 (v := ?ve_4) rfl (by kernel_rfl) (fun _ _ _ h => h) (Or.inl ⟨by rfl, ?he_4⟩) hHeld ?re_4
                  case he_4 => ((intro U hSw; have y8 : U.cell? ⟨m, 8, none⟩ = some (.slice AE t.edges.length cE) := hSw.1.cell 8; have ua : U.cell? ⟨gr + 1, ia * 2 + 1, none⟩ = some (.int .i64 ra.2) := (hSw.2.cell _).trans ((HL2.out.a.cell _).symm.trans ya1); have uz : U.cell? ⟨gr + 1, iz * 2, none⟩ = some (.int .i64 rz.1) := (hSw.2.cell _).trans ((HL2.out.a.cell _).symm.trans yz0); go_simp); (try (with_reducible rfl)))
                  try simp only [Act.put, List.setIfInBounds_toArray, List.set_cons_zero, List.set_cons_succ]
                  refine ht_take 4 (v := ?ve_5) rfl (by kernel_rfl) (fun _ _ _ h => h) (Or.inl ⟨by rfl, ?he_5⟩) hHeld ?re_5
                  case he_5 => ((intro U hSw; have y8 : U.cell? ⟨m, 8, none⟩ = some (.slice AE t.edges.length cE) := hSw.1.cell 8; have ua : U.cell? ⟨gr + 1, ia * 2 + 1, none⟩ = some (.int .i64 ra.2) := (hSw.2.cell _).trans ((HL2.out.a.cell _).symm.trans ya1); have uz : U.cell? ⟨gr + 1, iz * 2, none⟩ = some (.int .i64 rz.1) := (hSw.2.cell _).trans ((HL2.out.a.cell _).symm.trans yz0); go_simp); (try (with_reducible rfl)))
                  try simp only [Act.put, List.setIfInBounds_toArray, List.set_cons_zero, List.set_cons_succ]
                  refine ht_take 5 (v := ?ve_6) rfl (by kernel_rfl) (fun _ _ _ h => h) (Or.inl ⟨by rfl, ?he_6⟩) hHeld ?re_6
                  case he_6 => ((intro U hSw; have y8 : U.cell? ⟨m, 8, none⟩ = some (.slice AE t.edges.length cE) := hSw.1.cell 8; have ua : U.cell? ⟨gr + 1, ia * 2 + 1, none⟩ = some (.int .i64 ra.2) := (hSw.2.cell _).trans ((HL2.out.a.cell _).symm.trans ya1); have uz : U.cell? ⟨gr + 1, iz * 2, none⟩ = some (.int .i64 rz.1) := (hSw.2.cell _).trans ((HL2.out.a.cell _).symm.trans yz0); go_simp); (try (with_reducible rfl)))
                  try simp only [Act.put, List.setIfInBounds_toArray, List.set_cons_zero, List.set_cons_succ]
                  refine ht_take 6 (v := ?ve_7) rfl (by kernel_rfl) (fun _ _ _ h => h) (Or.inl ⟨by rfl, ?he_7⟩) hHeld ?re_7
                  case he_7 => ((intro U hSw; have y8 : U.cell? ⟨m, 8, none⟩ = some (.slice AE t.edges.length cE) := hSw.1.cell 8; have ua : U.cell? ⟨gr + 1, ia * 2 + 1, none⟩ = some (.int .i64 ra.2) := (hSw.2.cell _).trans ((HL2.out.a.cell _).symm.trans ya1); have uz : U.cell? ⟨gr + 1, iz * 2, none⟩ = some (.int .i64 rz.1) := (hSw.2.cell _).trans ((HL2.out.a.cell _).symm.trans yz0); go_simp); (try (with_reducible rfl)))
                  try simp only [Act.put, List.setIfInBounds_toArray, List.set_cons_zero, List.set_cons_succ]
                  refine ht_take 7 (v := ?ve_8) rfl (by kernel_rfl) (fun _ _ _ h => h) (Or.inl ⟨by rfl, ?he_8⟩) hHeld ?re_8
                  case he_8 => ((intro U hSw; have y8 : U.cell? ⟨m, 8, none⟩ = some (.slice AE t.edges.length cE) := hSw.1.cell 8; have ua : U.cell? ⟨gr + 1, ia * 2 + 1, none⟩ = some (.int .i64 ra.2) := (hSw.2.cell _).trans ((HL2.out.a.cell _).symm.trans ya1); have uz : U.cell? ⟨gr + 1, iz * 2, none⟩ = some (.int .i64 rz.1) := (hSw.2.cell _).trans ((HL2.out.a.cell _).symm.trans yz0); go_simp); (try (with_reducible rfl)))
                  try simp only [Act.put, List.setIfInBounds_toArray, List.set_cons_zero, List.set_cons_succ]
                  refine ht_take 8 (v := ?ve_9) rfl (by kernel_rfl) (fun _ _ _ h => h) (Or.inl ⟨by rfl, ?he_9⟩) hHeld ?re_9
                  case he_9 => ((intro U hSw; have y8 : U.cell? ⟨m, 8, none⟩ = some (.slice AE t.edges.length cE) := hSw.1.cell 8; have ua : U.cell? ⟨gr + 1, ia * 2 + 1, none⟩ = some (.int .i64 ra.2) := (hSw.2.cell _).trans ((HL2.out.a.cell _).symm.trans ya1); have uz : U.cell? ⟨gr + 1, iz * 2, none⟩ = some (.int .i64 rz.1) := (hSw.2.cell _).trans ((HL2.out.a.cell _).symm.trans yz0); go_simp); (try (with_reducible rfl)))
                  try simp only [Act.put, List.setIfInBounds_toArray, List.set_cons_zero, List.set_cons_succ]
                  refine ht_take 9 (v := ?ve_10) rfl (by kernel_rfl) (fun _ _ _ h => h) (Or.inl ⟨by rfl, ?he_10⟩) hHeld ?re_10
                  case he_10 => ((intro U hSw; have y8 : U.cell? ⟨m, 8, none⟩ = some (.slice AE t.edges.length cE) := hSw.1.cell 8; have ua : U.cell? ⟨gr + 1, ia * 2 + 1, none⟩ = some (.int .i64 ra.2) := (hSw.2.cell _).trans ((HL2.out.a.cell _).symm.trans ya1); have uz : U.cell? ⟨gr + 1, iz * 2, none⟩ = some (.int .i64 rz.1) := (hSw.2.cell _).trans ((HL2.out.a.cell _).symm.trans yz0); go_simp); (try (with_reducible rfl)))
                  try simp only [Act.put, List.setIfInBounds_toArray, List.set_cons_zero, List.set_cons_succ]
                  refine ht_take 10 (v := ?ve_11) rfl (by kernel_rfl) (fun _ _ _ h => h) (Or.inl ⟨by rfl, ?he_11⟩) hHeld ?re_11
                  case he_11 => ((intro U hSw; have y8 : U.cell? ⟨m, 8, none⟩ = some (.slice AE t.edges.length cE) := hSw.1.cell 8; have ua : U.cell? ⟨gr + 1, ia * 2 + 1, none⟩ = some (.int .i64 ra.2) := (hSw.2.cell _).trans ((HL2.out.a.cell _).symm.trans ya1); have uz : U.cell? ⟨gr + 1, iz * 2, none⟩ = some (.int .i64 rz.1) := (hSw.2.cell _).trans ((HL2.out.a.cell _).symm.trans yz0); go_simp); (try (with_reducible rfl)))
                  try simp only [Act.put, List.setIfInBounds_toArray, List.set_cons_zero, List.set_cons_succ]
                  refine ht_take 11 (v := ?ve_12) rfl (by kernel_rfl) (fun _ _ _ h => h) (Or.inl ⟨by rfl, ?he_12⟩) hHeld ?re_12
                  case he_12 => ((intro U hSw; have y8 : U.cell? ⟨m, 8, none⟩ = some (.slice AE t.edges.length cE) := hSw.1.cell 8; have ua : U.cell? ⟨gr + 1, ia * 2 + 1, none⟩ = some (.int .i64 ra.2) := (hSw.2.cell _).trans ((HL2.out.a.cell _).symm.trans ya1); have uz : U.cell? ⟨gr + 1, iz * 2, none⟩ = some (.int .i64 rz.1) := (hSw.2.cell _).trans ((HL2.out.a.cell _).symm.trans yz0); go_simp); (try (with_reducible rfl)))
                  try simp only [Act.put, List.setIfInBounds_toArray, List.set_cons_zero, List.set_cons_succ]
                  refine ht_take 12 (v := ?ve_13) rfl (by kernel_rfl) (fun _ _ _ h => h) (Or.inl ⟨by rfl, ?he_13⟩) hHeld ?re_13
                  case he_13 => ((intro U hSw; have y8 : U.cell? ⟨m, 8, none⟩ = some (.slice AE t.edges.length cE) := hSw.1.cell 8; have ua : U.cell? ⟨gr + 1, ia * 2 + 1, none⟩ = some (.int .i64 ra.2) := (hSw.2.cell _).trans ((HL2.out.a.cell _).symm.trans ya1); have uz : U.cell? ⟨gr + 1, iz * 2, none⟩ = some (.int .i64 rz.1) := (hSw.2.cell _).trans ((HL2.out.a.cell _).symm.trans yz0); go_simp); (try (with_reducible rfl)))
                  try simp only [Act.put, List.setIfInBounds_toArray, List.set_cons_zero, List.set_cons_succ]
                  refine ht_take 13 (v := ?ve_14) rfl (by kernel_rfl) (fun _ _ _ h => h) (Or.inl ⟨by rfl, ?he_14⟩) hHeld ?re_14
                  case he_14 => ((intro U hSw; have y8 : U.cell? ⟨m, 8, none⟩ = some (.slice AE t.edges.length cE) := hSw.1.cell 8; have ua : U.cell? ⟨gr + 1, ia * 2 + 1, none⟩ = some (.int .i64 ra.2) := (hSw.2.cell _).trans ((HL2.out.a.cell _).symm.trans ya1); have uz : U.cell? ⟨gr + 1, iz * 2, none⟩ = some (.int .i64 rz.1) := (hSw.2.cell _).trans ((HL2.out.a.cell _).symm.trans yz0); go_simp); (try (with_reducible rfl)))
                  try simp only [Act.put, List.setIfInBounds_toArray, List.set_cons_zero, List.set_cons_succ]
                  refine ht_take 14 (v := ?ve_15) rfl (by kernel_rfl) (fun _ _ _ h => h) (Or.inl ⟨by rfl, ?he_15⟩) hHeld ?re_15
                  case he_15 => ((intro U hSw; have y8 : U.cell? ⟨m, 8, none⟩ = some (.slice AE t.edges.length cE) := hSw.1.cell 8; have ua : U.cell? ⟨gr + 1, ia * 2 + 1, none⟩ = some (.int .i64 ra.2) := (hSw.2.cell _).trans ((HL2.out.a.cell _).symm.trans ya1); have uz : U.cell? ⟨gr + 1, iz * 2, none⟩ = some (.int .i64 rz.1) := (hSw.2.cell _).trans ((HL2.out.a.cell _).symm.trans yz0); go_simp); (try (with_reducible rfl)))
                  try simp only [Act.put, List.setIfInBounds_toArray, List.set_cons_zero, List.set_cons_succ]
                  refine ht_take 15 (v := ?ve_16) rfl (by kernel_rfl) (fun _ _ _ h => h) (Or.inl ⟨by rfl, ?he_16⟩) hHeld ?re_16
                  case he_16 => ((intro U hSw; have y8 : U.cell? ⟨m, 8, none⟩ = some (.slice AE t.edges.length cE) := hSw.1.cell 8; have ua : U.cell? ⟨gr + 1, ia * 2 + 1, none⟩ = some (.int .i64 ra.2) := (hSw.2.cell _).trans ((HL2.out.a.cell _).symm.trans ya1); have uz : U.cell? ⟨gr + 1, iz * 2, none⟩ = some (.int .i64 rz.1) := (hSw.2.cell _).trans ((HL2.out.a.cell _).symm.trans yz0); go_simp); (try (with_reducible rfl)))
                  try simp only [Act.put, List.setIfInBounds_toArray, List.set_cons_zero, List.set_cons_succ]
                  refine ht_take 16 (v := ?ve_17) rfl (by kernel_rfl) (fun _ _ _ h => h) (Or.inl ⟨by rfl, ?he_17⟩) hHeld ?re_17
                  case he_17 => ((intro U hSw; have y8 : U.cell? ⟨m, 8, none⟩ = some (.slice AE t.edges.length cE) := hSw.1.cell 8; have ua : U.cell? ⟨gr + 1, ia * 2 + 1, none⟩ = some (.int .i64 ra.2) := (hSw.2.cell _).trans ((HL2.out.a.cell _).symm.trans ya1); have uz : U.cell? ⟨gr + 1, iz * 2, none⟩ = some (.int .i64 rz.1) := (hSw.2.cell _).trans ((HL2.out.a.cell _).symm.trans yz0); go_simp); (try (with_reducible rfl)))
                  try simp only [Act.put, List.setIfInBounds_toArray, List.set_cons_zero, List.set_cons_succ]
                  refine ht_one 17 rfl (by kernel_rfl) (fun K hK => ?_)
                  go_simp
                  refine hK.out _ _ (⟨hHeld.1.alloc _, hHeld.2.alloc _⟩) (fun hHeld => ?_)
                  clear hK K
                  try simp only [Act.put, List.setIfInBounds_toArray, List.set_cons_zero, List.set_cons_succ]
                  refine ht_one 18 rfl (by kernel_rfl) (fun K hK => ?_)
                  refine step_append_lies _ (by rfl) (.tmp 98) (.tmp 110) _ (by rfl) wB.heap.size 53 i0 _ 2 16 Try.underlying42 hi0 hz0' hz1 hz2 rfl (by omega) (.slice AE t.edges.length cE) t.edges.length (t.edges.flatMap edgeV) (by rfl) (HX.out.drew.oE.alloc _) ⟨V3.heap.size, 0, none⟩ 1 1 [.int .i64 ra.2, .int .i64 rz.1] (by rfl) (by rfl) (World.news_of_block (cs := #[.int .i64 ra.2, .int .i64 rz.1]) (t := 53) (fr := (0, 0)) (heap_alloc_new V3.drew _)) (by simp [Value.oneCell']) (by omega) (by unfold maxLen; omega) (by omega) (by simp; omega) (V3.heap.size + 1) (by simp) ?_
                  intro gA cap w5 hown hgrow hat hlt'
                  refine hK.out _ _ (⟨hHeld.1.grown hgrow (fun e => by have := (HX.out.oE.lt m e.symm).1; omega), hHeld.2.grown hgrow (Ne.symm (blk_own_ne (HX.out.drew.oE.alloc _) hHeld.2 (by decide)))⟩) (fun hHeld => ?_)
                  clear hK K
                  try simp only [Act.put, List.setIfInBounds_toArray, List.set_cons_zero, List.set_cons_succ]
                  refine ht_take 19 (v := ?ve_18) rfl (by kernel_rfl) (fun _ _ _ h => h) (Or.inl ⟨by rfl, ?he_18⟩) hHeld ?re_18
                  case he_18 => ((intro U hSw; have y8 : U.cell? ⟨m, 8, none⟩ = some (.slice AE t.edges.length cE) := hSw.1.cell 8; have ua : U.cell? ⟨gr + 1, ia * 2 + 1, none⟩ = some (.int .i64 ra.2) := (hSw.2.cell _).trans ((HL2.out.a.cell _).symm.trans ya1); have uz : U.cell? ⟨gr + 1, iz * 2, none⟩ = some (.int .i64 rz.1) := (hSw.2.cell _).trans ((HL2.out.a.cell _).symm.trans yz0); go_simp); (try (with_reducible rfl)))
                  try simp only [Act.put, List.setIfInBounds_toArray, List.set_cons_zero, List.set_cons_succ]
                  refine ht_take 20 (v := ?ve_19) rfl (by kernel_rfl) (fun _ _ _ h => h) (Or.inl ⟨by rfl, ?he_19⟩) hHeld ?re_19
                  case he_19 => ((intro U hSw; have y8 : U.cell? ⟨m, 8, none⟩ = some (.slice AE t.edges.length cE) := hSw.1.cell 8; have ua : U.cell? ⟨gr + 1, ia * 2 + 1, none⟩ = some (.int .i64 ra.2) := (hSw.2.cell _).trans ((HL2.out.a.cell _).symm.trans ya1); have uz : U.cell? ⟨gr + 1, iz * 2, none⟩ = some (.int .i64 rz.1) := (hSw.2.cell _).trans ((HL2.out.a.cell _).symm.trans yz0); go_simp); (try (with_reducible rfl)))
                  try simp only [Act.put, List.setIfInBounds_toArray, List.set_cons_zero, List.set_cons_succ]
                  refine ht_take 21 (v := ?ve_20) rfl (by kernel_rfl) (fun _ _ _ h => h) (Or.inl ⟨by rfl, ?he_20⟩) hHeld ?re_20
                  case he_20 => ((intro U hSw; have y8 : U.cell? ⟨m, 8, none⟩ = some (.slice AE t.edges.length cE) := hSw.1.cell 8; have ua : U.cell? ⟨gr + 1, ia * 2 + 1, none⟩ = some (.int .i64 ra.2) := (hSw.2.cell _).trans ((HL2.out.a.cell _).symm.trans ya1); have uz : U.cell? ⟨gr + 1, iz * 2, none⟩ = some (.int .i64 rz.1) := (hSw.2.cell _).trans ((HL2.out.a.cell _).symm.trans yz0); go_simp); (try (with_reducible rfl)))
                  try simp only [Act.put, List.setIfInBounds_toArray, List.set_cons_zero, List.set_cons_succ]
                  refine ht_done (by kernel_rfl) rfl ?_
                  have hX2 := HX.out.drew.edge (x := (ra.2, rz.1)) hm hown hgrow
                  have hc2 := HX.out.drew.edge_ch hm hgrow (.slice (some ⟨gA, 0, none⟩) (t.edges.length + 1) cap)
                  have y8 : w5.cell? ⟨m, 8, none⟩ = some (.slice AE t.edges.length cE) := hHeld.1.cell 8
                  have q8 : w5.frozen? ⟨m, 8, none⟩ = false := hHeld.1.frozen 8
                  have hl5 := hHeld.1.lt
                  have hL5 := (HL2.out.below (Below.refl _ _).drew).step hc2 (by decide)
                  have HX2 := Lib.hid hX2
                  have HL5 := Lib.hid hL5
                  clear hX2 hc2 hown hgrow hat hHeld hL5
                  go_wp2_with fail
                  go_roundw
                  case rel => exact ⟨j + 1, _, by omega, by go_num, HI2, ⟨_, _, _, HX2.out⟩, HL5.out⟩
                  case measure => simp [intOf]; omega
        · have hi := hinv.out
          rw [List.drop_eq_nil_of_le (by omega)] at hi
          unfold flev2 at hi
          subst hi
          obtain ⟨gM, gN, gE, hX⟩ := hF
          have o0 : V2.cell? ⟨gr + 1 + 1, 0, none⟩ = some (.int .i64 out.1) := HL.out.o.cell 0
          have o1 : V2.cell? ⟨gr + 1 + 1, 1, none⟩ = some (.int .i64 out.2) := HL.out.o.cell 1
          have z0 : V2.cell? ⟨gr, 0, none⟩ = some (.int .i64 0) := HL.out.r.cell 0
          have z1 : V2.cell? ⟨gr, 1, none⟩ = some (.int .i64 0) := HL.out.r.cell 1
          have f0 : V2.frozen? ⟨gr, 0, none⟩ = false := HL.out.r.frozen 0
          have f1 : V2.frozen? ⟨gr, 1, none⟩ = false := HL.out.r.frozen 1
          have hrl := HL.out.r.lt
          have hol := HL.out.o.lt
          have hF4 := (HF.out.ends HL.out.r (by omega) 0 (.int .i64 out.1)).ends (HL.out.r.set_ 0 (.int .i64 out.1)) (by omega) 1 (.int .i64 out.2)
          have hB4 : Blk _ _ 97 #[.int .i64 out.1, .int .i64 out.2] := (HL.out.r.set_ 0 (.int .i64 out.1)).set_ 1 (.int .i64 out.2)
          have hC4 := ch_new (i := 1) (g := gr) (.int .i64 out.2) (ch_new (i := 0) (g := gr) (.int .i64 out.1) HL.out.ch (by have := HGR.out; omega)) (by have := HGR.out; omega)
          have HF4 := Lib.hid hF4
          have HB4 := Lib.hid hB4
          have HC4 := Lib.hid hC4
          clear hX hF4 hB4 hC4 hL hinv
          go_wp2_with fail
          exact bodyPost_ret (ret_flev HB4.out rfl) rfl ⟨rfl, HF4.out, HC4.out⟩
end Go.Proofs.Yteoioboiniealaa
