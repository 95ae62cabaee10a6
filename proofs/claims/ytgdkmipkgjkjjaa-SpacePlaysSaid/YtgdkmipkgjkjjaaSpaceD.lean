/- The contract of Enter. -/
import Derived.Test.YtgdkmipkgjkjjaaSpaceC
import Derived.Deep.RegionLaw
namespace Go.Proofs.Ytgdkmipkgjkjjaa
open Go.RowKit

theorem Try.infoBind : (Try.prog.info? 62).map (fun i => (i.zero, i.size, i.bytes)) = some (some (.agg #[.string ⟨#[]⟩, .string ⟨#[]⟩, .int .i64 0]), 3, 40) := by kernel_rfl
theorem Try.infoAttr : (Try.prog.info? 47).map (fun i => (i.zero, i.size, i.bytes)) = some (some (.agg #[.string ⟨#[]⟩, .string ⟨#[]⟩]), 2, 32) := by kernel_rfl

theorem flatA_at : ∀ (al : List (ByteArray × ByteArray)) (k : Nat) (h : k < al.length), (flatA al)[k * 2]? = some (.string al[k].1) ∧ (flatA al)[k * 2 + 1]? = some (.string al[k].2)
  | (n, v) :: l, 0, _ => ⟨rfl, rfl⟩
  | (n, v) :: l, k + 1, h => by
    have := flatA_at l k (by simpa using h)
    rw [show (k + 1) * 2 = k * 2 + 2 by omega]
    simpa [flatA] using this

theorem own_ne {w : World} {b1 b2 e1 e2 s1 s2 n1 n2 : Nat} {v1 v2 : Value} {xs1 xs2 : List Value} (h1 : w.ownsRow b1 e1 s1 v1 n1 xs1) (h2 : w.ownsRow b2 e2 s2 v2 n2 xs2) (hne : e1 ≠ e2) (q : Nat) (hq : v1.ownBlock = some q) : v2.ownBlock ≠ some q := by
  intro hq2
  rcases h1.2 with ⟨rfl, _⟩ | ⟨g1, c1, cur1, rfl, _, hh1, _⟩
  · simp [Value.ownBlock] at hq
  · rcases h2.2 with ⟨rfl, _⟩ | ⟨g2, c2, cur2, rfl, _, hh2, _⟩
    · simp [Value.ownBlock] at hq2
    · have a1 : g1 = q := by simpa [Value.ownBlock] using hq
      have a2 : g2 = q := by simpa [Value.ownBlock] using hq2
      subst a1
      rw [a2, hh1] at hh2
      injection hh2 with hh2
      injection hh2 with _ ht
      exact hne ht
theorem frozen_ad {w : World} {a : Addr} {o : Obj} (h : w.frozen? a = false) (hlt : a.block < w.heap.size) : (w.alloc o).drew.frozen? a = false := by
  have : (w.alloc o).heap[a.block]? = w.heap[a.block]? := Below.heap_alloc w o a.block hlt
  exact (World.frozen?_of_block (w := w) (w' := w.alloc o) this).trans h
theorem far_cell {w w' : World} {A n c b o : Nat} (h : w.grownBy w' (Value.slice (some ⟨A, 0, none⟩) n c).ownBlock) (hlt : b < w.heap.size) (hne : (some A : Option Nat) ≠ some b) : w'.cell? ⟨b, o, none⟩ = w.cell? ⟨b, o, none⟩ :=
  World.cell?_of_block (w := w) (h.block b hlt (Ne.symm hne))
theorem far_frozen {w w' : World} {A n c b o : Nat} (h : w.grownBy w' (Value.slice (some ⟨A, 0, none⟩) n c).ownBlock) (hlt : b < w.heap.size) (hne : (some A : Option Nat) ≠ some b) : w'.frozen? ⟨b, o, none⟩ = w.frozen? ⟨b, o, none⟩ :=
  World.frozen?_of_block (w := w) (h.block b hlt (Ne.symm hne))
theorem store_ok {w w2 : World} {base g A cap : Nat} {bs : List Bind} {d : Int} {o : Obj} (h : (w.alloc o).drew.grownBy w2 (Value.slice (some ⟨A, 0, none⟩) bs.length cap).ownBlock) (hs : Sp w base g A cap bs d) :
    w2.cell? ⟨g, 0, none⟩ = some (.slice (some ⟨A, 0, none⟩) bs.length cap) ∧ w2.frozen? ⟨g, 0, none⟩ = false := by
  have hl := hs.lt
  have hc := hs.alloc o
  have hb := h.block g (by simp; omega) (by show some g ≠ some A; have := hs.ne; simp; omega)
  have hb' : w2.heap[g]? = (w.alloc o).heap[g]? := hb
  rw [hc.blk] at hb'
  exact ⟨by rw [cell_of_row w2 g 0 _ _ _ hb']; rfl, by simp [World.frozen?, hb']⟩
theorem enter_step {w w1 w2 : World} {base g A A1 cap1 gA capA : Nat} {bs1 : List Bind} {d : Int} {u6 : Value} {outs : List (ByteArray × ByteArray)} {o : Obj} {p v : ByteArray}
    (hS : Sp w1 base g A1 cap1 bs1 d) (hO : w1.ownsRow w.heap.size 47 2 u6 outs.length (flatA outs)) (hF : Far w w1 g A) (hA1 : A1 = A ∨ w.heap.size ≤ A1) (hg : g < w.heap.size)
    (hown2 : w2.ownsRow base 62 3 (.slice (some ⟨gA, 0, none⟩) (bs1.length + 1) capA) (bs1.length + 1) (flatB bs1 ++ [.string p, .string v, .int .i64 d]))
    (hgrow : (w1.alloc o).drew.grownBy w2 (Value.slice (some ⟨A1, 0, none⟩) bs1.length cap1).ownBlock) (hat : (Value.slice (some ⟨A1, 0, none⟩) bs1.length cap1).ownBlock = some gA ∨ gA = w1.heap.size + 1) :
    Sp (w2.setCell ⟨g, 0, none⟩ (.slice (some ⟨gA, 0, none⟩) (bs1.length + 1) capA)) base g gA capA (bs1 ++ [(p, v, d)]) d ∧
      (w2.setCell ⟨g, 0, none⟩ (.slice (some ⟨gA, 0, none⟩) (bs1.length + 1) capA)).ownsRow w.heap.size 47 2 u6 outs.length (flatA outs) ∧
      Far w (w2.setCell ⟨g, 0, none⟩ (.slice (some ⟨gA, 0, none⟩) (bs1.length + 1) capA)) g A ∧ (gA = A ∨ w.heap.size ≤ gA) := by
  have hl := hS.lt
  have hFs := hF.size
  have hgA : gA = A1 ∨ gA = w1.heap.size + 1 := by
    rcases hat with h | h
    · left; have : A1 = gA := by simpa [Value.ownBlock] using h
      exact this.symm
    · exact .inr h
  have hne : gA ≠ g := by
    rcases hgA with h | h
    · rw [h]; exact hS.ne
    · omega
  have hc := hS.alloc o
  have hb : w2.heap[g]? = (w1.alloc o).heap[g]? := hgrow.block g (by simp; omega) (by show some g ≠ some A1; have := hS.ne; simp; omega)
  rw [hc.blk] at hb
  have hrow : ∀ q, u6.ownBlock = some q → w.heap.size ≤ q := fun q hq => (hO.lt q hq).1
  have hO2 : w2.ownsRow w.heap.size 47 2 u6 outs.length (flatA outs) := (hO.alloc o).drew.kept hgrow (.inr (own_ne hS.own hO (by decide) A1 rfl))
  refine ⟨⟨?_, ?_, hS.hg, hne⟩, ?_, ?_, ?_⟩
  · simp [World.setCell, Array.getElem?_modify, hb]
  · have e : (bs1 ++ [(p, v, d)]).length = bs1.length + 1 := by simp
    rw [e, flatB_append]
    exact ownsRow_setCell_other hown2 (by show some gA ≠ some g; simpa using hne) _
  · exact ownsRow_setCell_other hO2 (fun e => by have := hrow g e; omega) _
  · exact (((hF.alloc o).drew).grown hgrow (fun q hq => by
      have : A1 = q := by simpa [Value.ownBlock] using hq
      subst this
      rcases hA1 with h | h
      · exact .inr (.inl h)
      · exact .inr (.inr h))).setCell (.inl rfl) _
  · rcases hgA with h | h
    · rw [h]; exact hA1
    · right; omega
/-- How Enter ends. -/
def Entered (w : World) (base g A : Nat) (d : Int) (r : List Bind × List (ByteArray × ByteArray) × Int) (e : Ending) (w' : World) : Prop :=
  ∃ ov A' cap', e = .returned (.tuple #[ov, .int .i64 r.2.2]) ∧ Sp w' base g A' cap' r.1 d ∧ w'.ownsRow w.heap.size 47 2 ov r.2.1.length (flatA r.2.1) ∧ Far w w' g A ∧ (A' = A ∨ w.heap.size ≤ A')

/-- What holds at each round's head of Enter's loop. -/
def InEnter (w : World) (base g A : Nat) (d : Int) (al : List (ByteArray × ByteArray)) (bs : List Bind) (ov iv : Value) (wr : World) : Prop :=
  ∃ (k : Nat) (bs1 : List Bind) (outs : List (ByteArray × ByteArray)) (A1 cap1 : Nat), iv = .int .i64 k ∧ k ≤ al.length ∧ enterF d al bs [] = enterF d (al.drop k) bs1 outs ∧ Sp wr base g A1 cap1 bs1 d ∧
    wr.ownsRow w.heap.size 47 2 ov outs.length (flatA outs) ∧ Far w wr g A ∧ (A1 = A ∨ w.heap.size ≤ A1) ∧ bs1.length ≤ 100 ∧ outs.length ≤ k

set_option maxRecDepth 100000 in
set_option maxHeartbeats 1000000 in
theorem enter_any {w : World} {base g A cap : Nat} {bs : List Bind} {d : Int} (h : Sp w base g A cap bs d) (hd0 : 0 ≤ d) (hd1 : d ≤ 1000000) (hbs : bs.length ≤ 100)
    (al : List (ByteArray × ByteArray)) (X c : Nat) (cs : Array Value) (hX : w.heap[X]? = some (.cells cs 47 (0, 0))) (hcs : ∀ (k : Nat) (u : Value), (flatA al)[k]? = some u → cs[k]? = some u) (hal : al.length ≤ 1000) :
    Calls Try.prog 36 #[.pointer (some ⟨g, 0, none⟩), .slice (some ⟨X, 0, none⟩) al.length c] w (Entered w base g A (d + 1) (enterF (d + 1) al bs [])) := by
  obtain ⟨i0, hi0, hz0, hz1, hz2⟩ := info_parts Try.infoBind
  obtain ⟨j0, hj0, hy0, hy1, hy2⟩ := info_parts Try.infoAttr
  obtain ⟨hc0, hc1, hf0, hf1⟩ := h.cells
  have hlt := h.lt
  have H := Lib.hid h
  have Hcs := Lib.hid hcs
  have HX := Lib.hid hX
  clear h hX hcs
  go_enter Try.func36, Try.ntmps36
  go_wp2_with fail
  go_loopw [6, 22] (fun ov iv wr => InEnter w base g A (d + 1) al bs ov iv wr) (fun _ iv _ => al.length - (intOf iv).toNat)
  case atStart => exact ⟨0, bs, [], A, cap, rfl, Nat.zero_le _, rfl, H.out.setDepth _, World.ownsRow_nil _ _ _ _, (Far.refl _ _ _).setCell (.inl rfl) _, .inl rfl, hbs, by simp⟩
  case round =>
    obtain ⟨k, bs1, outs, A1, cap1, rfl, hk, hE, hSp, hO, hF, hA1, hb1, hok⟩ := hrel
    have HE := Lib.hid hE
    have HSp := Lib.hid hSp
    have HO := Lib.hid hO
    have HF := Lib.hid hF
    clear hE hSp hO hF
    by_cases hlt2 : k < al.length
    · have hXg : X ≠ g := fun e => by have h1 := H.out.blk; have h2 := HX.out; rw [e, h1] at h2; cases h2
      have hXA : X ≠ A := fun e => by
        rcases H.out.own.2 with ⟨h0, _⟩ | ⟨g', cap', cur, hv, _, hh, _⟩
        · cases h0
        · injection hv with h1 _ _
          injection h1 with h1
          injection h1 with h1
          have h2 := HX.out
          rw [e, h1, hh] at h2
          cases h2
      have hXl : X < w.heap.size := by
        rcases Nat.lt_or_ge X w.heap.size with hl | hge
        · exact hl
        · have := HX.out; rw [Array.getElem?_eq_none hge] at this; cases this
      have hXr := (HF.out.block X hXl hXg hXA).trans HX.out
      obtain ⟨f1, f2⟩ := flatA_at al k hlt2
      have x1 : wr.cell? ⟨X, k * 2, none⟩ = some (.string al[k].1) := by rw [cell_of_row wr X _ _ _ _ hXr]; exact Hcs.out _ _ f1
      have x2 : wr.cell? ⟨X, k * 2 + 1, none⟩ = some (.string al[k].2) := by rw [cell_of_row wr X _ _ _ _ hXr]; exact Hcs.out _ _ f2
      have hdrop : al.drop k = (al[k].1, al[k].2) :: al.drop (k + 1) := List.drop_eq_getElem_cons hlt2
      obtain ⟨n, hn⟩ : ∃ n, n = al[k].1 := ⟨_, rfl⟩
      obtain ⟨v, hv⟩ : ∃ v, v = al[k].2 := ⟨_, rfl⟩
      rw [← hn] at x1 hdrop
      rw [← hv] at x2 hdrop
      have HE2 := HE.out
      rw [hdrop, enterF] at HE2
      have HE3 := Lib.hid HE2
      clear HE2 hdrop hn hv hXr f1 f2 HE hXg hXA hXl
      go_wp2_with fail
      refine (tells_any _ _ _).mono ?_
      rintro e w1 ⟨rfl, hbt⟩
      have hbw : Below wr.heap.size wr w1 := ((Below.refl _ _).alloc (Nat.le_refl _) _).trans (hbt.mono (by simp))
      have hwl : wr.heap.size + 1 ≤ w1.heap.size := by have := hbt.size; simpa using this
      have hW : w1.heap[wr.heap.size]? = some (.cells #[.string n, .string v] 47 (0, 0)) := (hbt.block _ (by simp)).trans (heap_alloc_new wr _)
      have y1 : w1.cell? ⟨wr.heap.size, 0, none⟩ = some (.string n) := by rw [cell_of_row w1 _ 0 _ _ _ hW]; rfl
      have y2 : w1.cell? ⟨wr.heap.size, 1, none⟩ = some (.string v) := by rw [cell_of_row w1 _ 1 _ _ _ hW]; rfl
      have hSp1 := HSp.out.below hbw
      have hO1 : w1.ownsRow w.heap.size 47 2 u6 outs.length (flatA outs) := HO.out.kept (grown_of_below hbw none) (by
        cases hv : Value.ownBlock u6 with
        | none => exact .inl rfl
        | some q => exact .inr (by simp))
      have hF1 := HF.out.below hbw
      obtain ⟨g0, g1, g2, g3⟩ := hSp1.cells
      have hltr := HSp.out.lt
      have HSp1 := Lib.hid hSp1
      have HO1 := Lib.hid hO1
      have HF1 := Lib.hid hF1
      have HW := Lib.hid hW
      have Hbw := Lib.hid hbw
      have hwsz := HF.out.size
      clear hSp1 hO1 hF1 hW hbw hbt HSp HO HF
      cases htl : tellsV n with
      | none =>
        have e1 : tellsR n = .tuple #[.string n, .bool false] := by unfold tellsR; rw [htl]
        rw [e1]
        have hE4 := HE3.out
        rw [htl] at hE4
        have HE4 := Lib.hid hE4
        clear hE4 HE3 htl e1
        go_wp2_with (at_builtin; refine wpList_append_lies _ rfl (.tmp 51) (.tmp 53) _ rfl w.heap.size 47 j0 _ 2 32 Try.underlying43 hj0 hy0 hy1 hy2 rfl (by omega) u6 outs.length (flatA outs) rfl (HO1.out.alloc _) ⟨w1.heap.size, 0, none⟩ 1 1 [.string n, .string v] rfl rfl (World.news_of_block (cs := #[.string n, .string v]) (t := 47) (fr := (0, 0)) (heap_alloc_new w1 _)) (by simp [Value.oneCell']) (by omega) (by unfold maxLen; omega) (by omega) (by simp; omega) (w1.heap.size + 1) (by simp) ?_)
        intro gO capO w2 hown2 hgrow hat hlt3
        go_wp2_with fail
        go_roundw
        case rel =>
          have hrow : ∀ q, u6.ownBlock = some q → w.heap.size ≤ q := fun q hq => (HO1.out.lt q hq).1
          refine ⟨k + 1, bs1, outs ++ [(n, v)], A1, cap1, by go_num, by omega, HE4.out, ?_, ?_, ?_, hA1, hb1, by simp; omega⟩
          · refine (HSp1.out.alloc _).keep hgrow ⟨fun e => ?_, fun e => ?_⟩
            · have := hrow g e; omega
            · exact own_ne HO1.out HSp1.out.own (by decide) A1 e rfl
          · have e : (outs ++ [(n, v)]).length = outs.length + 1 := by simp
            rw [e, flatA_append]
            exact hown2
          · exact (HF1.out.alloc _).grown hgrow (fun q hq => .inr (.inr (hrow q hq)))
        case measure => simp [intOf] <;> omega
      | some p =>
        have e1 : tellsR n = .tuple #[.string p, .bool true] := by unfold tellsR; rw [htl]
        rw [e1]
        have hE4 := HE3.out
        rw [htl] at hE4
        have HE4 := Lib.hid hE4
        clear hE4 HE3 htl e1
        cases h1 : (p.toList == [120, 109, 108])
        · cases h2 : (p.toList == [120, 109, 108, 110, 115])
          · cases h3 : p.toList.isEmpty
            · cases h4 : v.toList.isEmpty
              · have hE5 : enterF (d + 1) al bs [] = if 100 ≤ bs1.length then (bs1, [], 5) else enterF (d + 1) (List.drop (k + 1) al) (bs1 ++ [(p, v, d + 1)]) outs := by
                  have hb : badP p v = false := by unfold badP; simp only [h1, h2, h3, h4]; rfl
                  have := HE4.out
                  simp only [hb] at this
                  exact this
                have HE5 := Lib.hid hE5
                clear hE5 HE4
                by_cases hbig : 100 ≤ bs1.length
                · have hE6 := HE5.out
                  rw [if_pos hbig] at hE6
                  have HE6 := Lib.hid hE6
                  clear hE6 HE5
                  go_wp2_with fail
                  go_ret2
                  rw [HE6.out]
                  exact ⟨.slice none 0 0, A1, cap1, rfl, HSp1.out, World.ownsRow_nil _ _ _ _, HF1.out, hA1⟩
                · have hE6 := HE5.out
                  rw [if_neg hbig] at hE6
                  have HE6 := Lib.hid hE6
                  clear hE6 HE5
                  go_wp2_with fail
                  have nn0 := World.new_ne w1 _ g0
                  have nn1 := World.new_ne w1 _ g1
                  have nn2 := World.new_ne w1 _ y2
                  have hnA := HSp1.out.lt
                  have HO2 := Lib.hid HSp1.out.own
                  go_region_law ((refine step_append_lies _ (by rfl) _ _ _ (by rfl) base 62 i0 _ 3 40 Try.underlying63 hi0 hz0 hz1 hz2 rfl (by omega) (.slice (some ⟨A1, 0, none⟩) bs1.length cap1) bs1.length (flatB bs1) (by rfl) ((HO2.out.alloc _).drew) ⟨w1.heap.size, 0, none⟩ 1 1 [.string p, .string v, .int .i64 (d + 1)] (by rfl) (by rfl) (World.news_of_block (cs := #[.string p, .string v, .int .i64 (d + 1)]) (t := 62) (fr := (0, 0)) (heap_alloc_new w1 _)) (by simp [Value.oneCell']) (by omega) (by unfold maxLen; omega) (by omega) (by simp; omega) (w1.heap.size + 1) (by simp) ?_; intro gA capA w2 hown2 hgrow hat hlt3; have z0 := store_ok hgrow HSp1.out))
                  all_goals
                    go_wp2_with fail
                    go_roundw
                    case rel =>
                      obtain ⟨r1, r2, r3, r4⟩ := enter_step (p := p) (v := v) HSp1.out HO1.out HF1.out hA1 (by omega) hown2 hgrow hat
                      exact ⟨k + 1, bs1 ++ [(p, v, d + 1)], outs, gA, capA, by go_num, by omega, HE6.out, r1, r2, r3, r4, by simp; omega, by omega⟩
                    case measure => simp [intOf] <;> omega
              · have hE5 : enterF (d + 1) al bs [] = (bs1, [], 3) := by
                  have hb : badP p v = true := by unfold badP; simp only [h1, h2, h3, h4]; rfl
                  have := HE4.out
                  simp only [hb] at this
                  exact this
                have HE5 := Lib.hid hE5
                clear hE5 HE4
                go_wp2_with fail
                go_ret2
                rw [HE5.out]
                exact ⟨.slice none 0 0, A1, cap1, rfl, HSp1.out, World.ownsRow_nil _ _ _ _, HF1.out, hA1⟩
            · have hE5 : enterF (d + 1) al bs [] = if 100 ≤ bs1.length then (bs1, [], 5) else enterF (d + 1) (List.drop (k + 1) al) (bs1 ++ [(p, v, d + 1)]) outs := by
                have hb : badP p v = false := by unfold badP; simp only [h1, h2, h3]; rfl
                have := HE4.out
                simp only [hb] at this
                exact this
              have HE5 := Lib.hid hE5
              clear hE5 HE4
              by_cases hbig : 100 ≤ bs1.length
              · have hE6 := HE5.out
                rw [if_pos hbig] at hE6
                have HE6 := Lib.hid hE6
                clear hE6 HE5
                go_wp2_with fail
                go_ret2
                rw [HE6.out]
                exact ⟨.slice none 0 0, A1, cap1, rfl, HSp1.out, World.ownsRow_nil _ _ _ _, HF1.out, hA1⟩
              · have hE6 := HE5.out
                rw [if_neg hbig] at hE6
                have HE6 := Lib.hid hE6
                clear hE6 HE5
                go_wp2_with fail
                have nn0 := World.new_ne w1 _ g0
                have nn1 := World.new_ne w1 _ g1
                have nn2 := World.new_ne w1 _ y2
                have hnA := HSp1.out.lt
                have HO2 := Lib.hid HSp1.out.own
                go_region_law ((refine step_append_lies _ (by rfl) _ _ _ (by rfl) base 62 i0 _ 3 40 Try.underlying63 hi0 hz0 hz1 hz2 rfl (by omega) (.slice (some ⟨A1, 0, none⟩) bs1.length cap1) bs1.length (flatB bs1) (by rfl) ((HO2.out.alloc _).drew) ⟨w1.heap.size, 0, none⟩ 1 1 [.string p, .string v, .int .i64 (d + 1)] (by rfl) (by rfl) (World.news_of_block (cs := #[.string p, .string v, .int .i64 (d + 1)]) (t := 62) (fr := (0, 0)) (heap_alloc_new w1 _)) (by simp [Value.oneCell']) (by omega) (by unfold maxLen; omega) (by omega) (by simp; omega) (w1.heap.size + 1) (by simp) ?_; intro gA capA w2 hown2 hgrow hat hlt3; have z0 := store_ok hgrow HSp1.out))
                all_goals
                  go_wp2_with fail
                  go_roundw
                  case rel =>
                    obtain ⟨r1, r2, r3, r4⟩ := enter_step (p := p) (v := v) HSp1.out HO1.out HF1.out hA1 (by omega) hown2 hgrow hat
                    exact ⟨k + 1, bs1 ++ [(p, v, d + 1)], outs, gA, capA, by go_num, by omega, HE6.out, r1, r2, r3, r4, by simp; omega, by omega⟩
                  case measure => simp [intOf] <;> omega
          · have hE5 : enterF (d + 1) al bs [] = (bs1, [], 3) := by
              have hb : badP p v = true := by unfold badP; simp only [h1, h2]; rfl
              have := HE4.out
              simp only [hb] at this
              exact this
            have HE5 := Lib.hid hE5
            clear hE5 HE4
            go_wp2_with fail
            go_ret2
            rw [HE5.out]
            exact ⟨.slice none 0 0, A1, cap1, rfl, HSp1.out, World.ownsRow_nil _ _ _ _, HF1.out, hA1⟩
        · have hE5 : enterF (d + 1) al bs [] = (bs1, [], 3) := by
            have hb : badP p v = true := by unfold badP; simp only [h1]; rfl
            have := HE4.out
            simp only [hb] at this
            exact this
          have HE5 := Lib.hid hE5
          clear hE5 HE4
          go_wp2_with fail
          go_ret2
          rw [HE5.out]
          exact ⟨.slice none 0 0, A1, cap1, rfl, HSp1.out, World.ownsRow_nil _ _ _ _, HF1.out, hA1⟩
    · have hE2 : enterF (d + 1) al bs [] = (bs1, outs, 0) := by
        rw [HE.out, List.drop_eq_nil_of_le (by omega), enterF]
      have HE2 := Lib.hid hE2
      clear hE2 HE
      go_wp2_with fail
      go_ret2
      rw [HE2.out]
      exact ⟨_, A1, cap1, rfl, HSp.out, HO.out, HF.out, hA1⟩
end Go.Proofs.Ytgdkmipkgjkjjaa
