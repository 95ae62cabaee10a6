/- Maps behind one another: the contract of inline.chain. -/
import Derived.Test.YteoioboiniealaaInlB
import Derived.Deep.RegionHeld3
import Derived.Deep.DeepCutAuto
namespace Go.Proofs.Yteoioboiniealaa
open Go.RowKit
attribute [local go_sem ↓] Go.wp_at_zero Go.wp_at_succ

/-- Maps behind one another. -/
def chainF (outer : List MapD) (x : MapD) : MapD := ⟨x.inner, whoF outer x.outer⟩
def mapV (x : MapD) : List Value := [.string x.inner, .string x.outer]
theorem rdl_mapV {w : World} : ∀ l : List MapD, RdL w (l.flatMap mapC) (l.flatMap mapV)
  | [] => rdl_nil.2 rfl
  | x :: l => by
    rw [List.flatMap_cons, List.flatMap_cons]
    refine RdL.append ?_ (rdl_mapV l)
    exact rdl_cons.2 ⟨_, _, rfl, rd_str.2 rfl, rdl_cons.2 ⟨_, _, rfl, rd_str.2 rfl, rdl_nil.2 rfl⟩⟩
theorem Try.infoMap : (Try.prog.info? 73).map (fun i => (i.zero, i.size, i.bytes)) = some (some (.agg #[.string ⟨#[]⟩, .string ⟨#[]⟩]), 2, 32) := by kernel_rfl
/-- What holds at each round's head. -/
def InChain (w : World) (q : List MapD) (v iv : Value) (wr : World) : Prop :=
  ∃ k : Nat, k ≤ q.length ∧ iv = .int .i64 k ∧ wr.ownsRow w.heap.size 73 2 v k ((q.take k).flatMap mapV) ∧ Below w.heap.size w wr

set_option maxHeartbeats 1000000 in
theorem chain_any {w : World} {v vo : Value} {l lo : List MapD} (hv : Rd w (mapsD l) v) (hl : l.length ≤ 1000000) (ho : Rd w (mapsD lo) vo) :
    Calls Try.prog 82 #[v, vo] w fun e w' => ∃ r, e = .returned r ∧ Rd w' (mapsD (l.map (chainF lo))) r ∧ Below w.heap.size w w' := by
  obtain ⟨i0, hi0, hz0, hz1, hz2⟩ := info_parts Try.infoMap
  obtain ⟨A, c, rfl, hlc, hcm, hat⟩ := rd_at mapC_len hv
  obtain ⟨Ao, co, xo, rfl, _, _⟩ := rd_sl.1 ho
  obtain ⟨q, hq⟩ : ∃ q, q = l.map (chainF lo) := ⟨_, rfl⟩
  have hql : q.length = l.length := by rw [hq]; simp
  have HAT := Lib.hid hat
  have HO0 := Lib.hid ho
  have HQ := Lib.hid hq
  have HQL := Lib.hid hql
  rw [← hq]
  clear hat hv hcm ho hq hql
  go_enter Try.func82, Try.ntmps82
  go_wp2_with fail
  go_loopw [5, 10] (fun v iv wr => InChain w q v iv wr) (fun _ iv _ => l.length - (intOf iv).toNat)
  case atStart => exact ⟨0, Nat.zero_le _, rfl, World.ownsRow_nil _ _ _ _, Below.refl _ _⟩
  case round =>
    obtain ⟨k, hk, rfl, hO, hB⟩ := hrel
    have hkl : k ≤ l.length := by have := HQL.out; omega
    have HO := Lib.hid hO
    have HB := Lib.hid hB
    have hsz := hB.size
    clear hO hB hk
    by_cases hlt : k < l.length
    · obtain ⟨b, vs, rfl, hbl, _, hvs, hcell⟩ := HAT.out k hlt
      have hkq : k < q.length := by have := HQL.out; omega
      have hst : (q.take (k + 1)).flatMap mapV = (q.take k).flatMap mapV ++ mapV (chainF lo l[k]) := by
        rw [List.take_succ_eq_append_getElem hkq, List.flatMap_append]
        have : q[k] = chainF lo l[k] := by simp [HQ.out]
        rw [this]
        simp
      have HST := Lib.hid hst
      clear hst hkq
      obtain ⟨x, hx⟩ : ∃ x, x = l[k] := ⟨_, rfl⟩
      rw [← hx] at hvs HST
      clear hx
      obtain rfl := rd_mapC hvs
      have x0 : wr.cell? ⟨b, k * 2, none⟩ = some (.string x.inner) := (HB.out.cell (p := ⟨b, k * 2, none⟩) hbl).trans (hcell 0 (by omega))
      have x1 : wr.cell? ⟨b, k * 2 + 1, none⟩ = some (.string x.outer) := (HB.out.cell (p := ⟨b, k * 2 + 1, none⟩) hbl).trans (hcell 1 (by omega))
      clear hcell hvs
      have hwho := fun W (hb : Below w.heap.size w W) => who_any x.outer (Rd.below hb _ _ HO0.out)
      have HWHO := Lib.hid hwho
      clear hwho
      have hbw := HB.out.alloc hsz (.cells #[.string x.inner, .string x.outer] 73)
      have HBW := Lib.hid hbw
      have HOW := Lib.hid (HO.out.alloc (.cells #[.string x.inner, .string x.outer] 73))
      clear hbw
      go_upto_region 5 with fail
      have y0 : (wr.alloc (.cells #[.string x.inner, .string x.outer] 73)).cell? ⟨wr.heap.size, 0, none⟩ = some (.string x.inner) := by rw [cell_of_row _ wr.heap.size 0 _ _ _ (heap_alloc_new wr _)]; rfl
      have y1 : (wr.alloc (.cells #[.string x.inner, .string x.outer] 73)).cell? ⟨wr.heap.size, 1, none⟩ = some (.string x.outer) := by rw [cell_of_row _ wr.heap.size 1 _ _ _ (heap_alloc_new wr _)]; rfl
      have hsW : (wr.alloc (.cells #[.string x.inner, .string x.outer] 73)).heap.size = wr.heap.size + 1 := by simp
      generalize wr.alloc (.cells #[.string x.inner, .string x.outer] 73) = W at *
      have HSW := Lib.hid hsW
      have hvne := fun e => Nat.lt_irrefl _ (HO.out.lt wr.heap.size e).2
      clear hsW x0 x1
      go_region_held3 (fun w' => w'.cell? ⟨wr.heap.size, 0, none⟩ = some (.string x.inner) ∧ w'.cell? ⟨wr.heap.size, 1, none⟩ = some (.string x.outer))
        (first | go_keep | (go_split_ands; refine ⟨?_, ?_⟩ <;> (first | exact (hb1.cell (by have := HSW.out; simp; omega)).trans (by assumption) | (refine (World.cell?_of_block (hgrow.block _ (by have := HSW.out; have := hb1.size; simp at this ⊢; omega) (Ne.symm hvne))).trans (by assumption)))))
        ((first
          | (go_at_call 73; refine (HWHO.out _ HBW.out.drew).mono ?_; rintro e w1 ⟨rfl, hb1⟩)
          | (refine step_append_lies _ (by rfl) _ _ _ (by rfl) w.heap.size 73 i0 _ 2 32 Try.underlying31 hi0 hz0 hz1 hz2 rfl (by omega) _ _ _ (by rfl) ((own_below HOW.out.drew hb1).alloc _) ⟨w1.heap.size, 0, none⟩ 1 1 [.string x.inner, .string (whoF lo x.outer)] (by rfl) (by rfl) (World.news_of_block (cs := #[.string x.inner, .string (whoF lo x.outer)]) (t := 73) (fr := (0, 0)) (heap_alloc_new w1 _)) (by simp [Value.oneCell']) (by omega) (by unfold maxLen; omega) (by omega) (by have := HBW.out.size; have := hb1.size; simp at *; omega) (w1.heap.size + 1) (by simp) ?_; intro gA capA w2 hown2 hgrow hat2 hlt3)))
      all_goals
        go_wp2_with fail
        go_roundw
        case rel =>
          refine ⟨k + 1, by have := HQL.out; omega, by go_num, by rw [HST.out]; exact hown2, ?_⟩
          exact below_own ((HBW.out.drew).trans (hb1.mono (by have := HSW.out; simp; omega))) (own_below HOW.out.drew hb1) hgrow (by have := HBW.out.size; have := hb1.size; simp at *; omega)
        case measure => simp [intOf]; omega
    · have hfin : q.take k = q := List.take_of_length_le (by have := HQL.out; omega)
      have hkl2 : k = q.length := by have := HQL.out; omega
      have Hfin := Lib.hid hfin
      have HKL := Lib.hid hkl2
      clear hfin hkl2
      go_wp2_with fail
      go_ret
      have hO := HO.out
      rw [Hfin.out, HKL.out] at hO
      obtain ⟨A', c', rfl, _, _⟩ := own_slice hO
      exact ⟨_, rfl, rd_of_own hO (rdl_mapV _), HB.out⟩
end Go.Proofs.Yteoioboiniealaa
