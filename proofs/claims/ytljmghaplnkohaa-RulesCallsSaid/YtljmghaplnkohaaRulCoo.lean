/- The contracts of rules.mapped and rules.item, The contracts of rules.level, Chor, Check, The contracts of rules.Chor and rules.Check, joined. -/
import Derived.Test.YtljmghaplnkohaaRulCon
import Derived.Test.YtljmghaplnkohaaRulF
import Derived.Test.YtljmghaplnkohaaRulBC
import Derived.Test.YtljmghaplnkohaaIdsFG
namespace Go.Proofs.Ytljmghaplnkohaa
open Go.RowKit
attribute [local go_sem ↓] Go.wp_at_zero Go.wp_at_succ

/-- The front of a row. -/
theorem rd_front {α : Type} {w : World} {e sz : Nat} {f : α → List Dat} (hf : ∀ x, (f x).length = sz) {l : List α} {A : Option Addr} {n c : Nat} (hn : l.length = n) (h : Rd w (datS e sz f l) (.slice A n c)) (k : Nat) (hk : k ≤ n) : Rd w (datS e sz f (l.take k)) (.slice A k c) := by
  subst hn
  obtain ⟨A', c', xs, hv, ho, hl⟩ := rd_sl.1 h
  injection hv with e1 e2 e3
  subst e1
  subst e3
  have hkl : (l.take k).length = k := List.length_take_of_le hk
  have hlen : ∀ m : List α, (m.flatMap f).length = m.length * sz := fun m => by
    induction m with
    | nil => simp
    | cons x m ih => rw [List.flatMap_cons, List.length_append, ih, hf, List.length_cons, Nat.succ_mul]; omega
  have hsplit : l.flatMap f = (l.take k).flatMap f ++ (l.drop k).flatMap f := by rw [← List.flatMap_append, List.take_append_drop]
  rw [hsplit] at hl
  obtain ⟨a, b, rfl, ha, _⟩ := hl.split
  have hal : a.length = k * sz := by rw [ha.len, hlen, hkl]
  unfold datS
  rw [hkl]
  refine rd_sl.2 ⟨A, c, a, rfl, ⟨hal, ?_⟩, ha⟩
  rcases ho.2 with ⟨h1, h2⟩ | ⟨g, cap, cur, h1, h2, h3, h4, h5, h6, h7⟩
  · injection h1 with e1 e2 e3
    subst e1
    subst e3
    have : k = 0 := by omega
    subst this
    exact .inl ⟨rfl, rfl⟩
  · injection h1 with e1 e2 e3
    subst e1
    subst e3
    refine .inr ⟨g, c, cur, rfl, h2, h3, by omega, h5, h6, ?_⟩
    have : k * sz ≤ l.length * sz := Nat.mul_le_mul_right _ hk
    have h8 : (cur.toList.take (l.length * sz)).take (k * sz) = (a ++ b).take (k * sz) := by rw [h7]
    rw [List.take_take, Nat.min_eq_left this, List.take_append_of_le_length (by omega)] at h8
    exact h8.trans (List.take_of_length_le (by omega))
def mapTw (m o : MapD) : Bool := eqS o.inner m.inner || eqS o.outer m.outer
def noTw (pre : List MapD) : List MapD → Bool
  | [] => true
  | m :: r => !(pre.any (mapTw m)) && noTw (pre ++ [m]) r
def mappedF (d : DocD) (x : ItemD) : Bool := decide (0 ≤ chorAt d x.called) && (decide (x.maps.length = (d.chors.getD (chorAt d x.called).toNat noChor).parts.length) && noTw [] x.maps)
def itemF (d : DocD) (c : ChorD) (l : List ItemD) (s : List SeqD) (x : ItemD) : Int :=
  if degF s x.kind x.id ≠ 0 then degF s x.kind x.id else if (x.kind == 6 && !(evF l s x.id)) = true then 5 else if (x.kind == 3 && !(taskF c x)) = true then 6 else if (x.kind == 8 && !(mappedF d x)) = true then 9 else 0
set_option maxHeartbeats 1000000 in
theorem rd_frontO {α : Type} {w : World} {e sz : Nat} {f : α → List Dat} (hf : ∀ x, (f x).length = sz) {l : List α} {A : Option Addr} {n c : Nat} (hn : l.length = n) (h : Rd w (datO e sz f l) (.slice A n c)) (k : Nat) (hk : k ≤ n) : Rd w (datO e sz f (l.take k)) (.slice A k c) := by
  subst hn
  obtain ⟨A', c', xs, hv, ho, hl⟩ := rd_slo.1 h
  injection hv with e1 e2 e3
  subst e1
  subst e3
  have hkl : (l.take k).length = k := List.length_take_of_le hk
  have hlen : ∀ m : List α, (m.flatMap f).length = m.length * sz := fun m => by
    induction m with
    | nil => simp
    | cons x m ih => rw [List.flatMap_cons, List.length_append, ih, hf, List.length_cons, Nat.succ_mul]; omega
  have hsplit : l.flatMap f = (l.take k).flatMap f ++ (l.drop k).flatMap f := by rw [← List.flatMap_append, List.take_append_drop]
  rw [hsplit] at hl
  obtain ⟨a, b, rfl, ha, _⟩ := hl.split
  have hal : a.length = k * sz := by rw [ha.len, hlen, hkl]
  unfold datO
  rw [hkl]
  refine rd_slo.2 ⟨A, c, a, rfl, ⟨hal, ?_⟩, ha⟩
  rcases ho.2 with ⟨h1, h2⟩ | ⟨g, o, cap, cur, h1, h3, h4, h5, h7⟩
  · injection h1 with e1 e2 e3
    subst e1
    subst e3
    have hk0 : k = 0 := by omega
    subst hk0
    exact .inl ⟨rfl, rfl⟩
  · injection h1 with e1 e2 e3
    subst e1
    subst e3
    refine .inr ⟨g, o, _, cur, rfl, h3, by omega, h5, ?_⟩
    have : k * sz ≤ l.length * sz := Nat.mul_le_mul_right _ hk
    have h8 := congrArg (List.take (k * sz)) h7
    rw [List.take_take, Nat.min_eq_left this] at h8
    rw [h8, List.take_append_of_le_length (by omega), List.take_of_length_le (by omega)]
theorem mapTwice_any {w : World} {g : Nat} (x q : MapD) (hb : Blk w g 71 #[.string q.inner, .string q.outer]) :
    Calls Try.prog 86 #[.agg #[.string x.inner, .string x.outer], .pointer (some ⟨g, 0, none⟩)] w fun e w' => e = .returned (.bool (mapTw q x)) ∧ Below w.heap.size w w' := by
  have x0 : w.cell? ⟨g, 0, none⟩ = some (.string q.inner) := hb.cell 0
  have x1 : w.cell? ⟨g, 1, none⟩ = some (.string q.outer) := hb.cell 1
  have hl := hb.lt
  unfold mapTw eqS
  clear hb
  go_enter Try.func86, Try.ntmps86
  cases h1 : (x.inner.toList == q.inner.toList)
  · cases h2 : (x.outer.toList == q.outer.toList)
    · go_wp2_with fail
      go_ret
      exact ⟨rfl, (Below.refl _ _).alloc (Nat.le_refl _) _⟩
    · go_wp2_with fail
      go_ret
      exact ⟨rfl, (Below.refl _ _).alloc (Nat.le_refl _) _⟩
  · go_wp2_with fail
    go_ret
    exact ⟨rfl, (Below.refl _ _).alloc (Nat.le_refl _) _⟩
set_option maxRecDepth 100000 in
set_option maxHeartbeats 16000000 in
theorem mapped_any {w : World} (d : DocD) (x : ItemD) {A1 B1 : Option Addr} {c1 k1 : Nat} {A3 A4 A7 A8 A9 : Option Addr} {c3 c4 c7 c8 c9 : Nat} (hcs : Rd w (chorsD d.chors) (.slice B1 d.chors.length k1)) (hX : ItemV w x (.slice A3 x.parts.length c3) (.slice A4 x.flows.length c4) (.slice A7 x.maps.length c7) (.slice A8 x.items.length c8) (.slice A9 x.seqs.length c9)) :
    Calls Try.prog 84 #[.agg #[.slice A1 d.msgs.length c1, .slice B1 d.chors.length k1], .agg #[.int .i64 x.kind, .string x.id, .string x.first, .slice A3 x.parts.length c3, .slice A4 x.flows.length c4, .bool x.loop, .string x.called, .slice A7 x.maps.length c7, .slice A8 x.items.length c8, .slice A9 x.seqs.length c9]] w fun e w' => e = .returned (.bool (mappedF d x)) ∧ Below w.heap.size w w' := by
  obtain ⟨V, hV⟩ : ∃ V, V = (w.alloc (.cells #[.slice A1 d.msgs.length c1, .slice B1 d.chors.length k1] 42)).alloc (.cells #[.int .i64 x.kind, .string x.id, .string x.first, .slice A3 x.parts.length c3, .slice A4 x.flows.length c4, .bool x.loop, .string x.called, .slice A7 x.maps.length c7, .slice A8 x.items.length c8, .slice A9 x.seqs.length c9] 30) := ⟨_, rfl⟩
  obtain ⟨gd, hgd⟩ : ∃ g, g = w.heap.size := ⟨_, rfl⟩
  have z1 : (w.alloc (.cells #[.slice A1 d.msgs.length c1, .slice B1 d.chors.length k1] 42)).heap.size = w.heap.size + 1 := by simp
  have bV : Below w.heap.size w V := by rw [hV]; exact ((Below.refl _ _).alloc (Nat.le_refl _) _).alloc (by simp) _
  have hbd : Blk V gd 42 #[.slice A1 d.msgs.length c1, .slice B1 d.chors.length k1] := by rw [hV, hgd]; exact (Blk.new w _ _).alloc _
  have hbx : Blk V (gd + 1) 30 #[.int .i64 x.kind, .string x.id, .string x.first, .slice A3 x.parts.length c3, .slice A4 x.flows.length c4, .bool x.loop, .string x.called, .slice A7 x.maps.length c7, .slice A8 x.items.length c8, .slice A9 x.seqs.length c9] := by
    have := Blk.new (w.alloc (.cells #[.slice A1 d.msgs.length c1, .slice B1 d.chors.length k1] 42)) 30 #[.int .i64 x.kind, .string x.id, .string x.first, .slice A3 x.parts.length c3, .slice A4 x.flows.length c4, .bool x.loop, .string x.called, .slice A7 x.maps.length c7, .slice A8 x.items.length c8, .slice A9 x.seqs.length c9]
    rw [z1] at this
    rw [hV, hgd]; exact this
  obtain ⟨r, hr⟩ : ∃ r, r = mappedF d x := ⟨_, rfl⟩
  rw [← hr]
  unfold mappedF at hr
  have hcall := idsChor_any (w := V) (vM := .slice A1 d.msgs.length c1) x.called (Rd.below bV _ _ hcs)
  have hp : chorAt d x.called = findFrom (fun y : ChorD => eqS y.id x.called) d.chors 0 := rfl
  have hin := findFrom_inI (fun y : ChorD => eqS y.id x.called) d.chors 0
  rw [← hp] at hcall hin
  generalize chorAt d x.called = q at *
  have hM := Rd.below bV _ _ hX.2.2.1
  obtain ⟨_, _, hMv, hMl, hMm, _⟩ := rd_atO mapC_len hM
  injection hMv with e1 e2 e3
  clear e2
  subst e1
  subst e3
  have hm7 : x.maps.length ≤ maxLen := by omega
  unfold maxLen at hm7
  have x0 : V.cell? ⟨(gd + 1), 0, none⟩ = some (.int .i64 x.kind) := hbx.cell 0
  have x1 : V.cell? ⟨(gd + 1), 1, none⟩ = some (.string x.id) := hbx.cell 1
  have x2 : V.cell? ⟨(gd + 1), 2, none⟩ = some (.string x.first) := hbx.cell 2
  have x3 : V.cell? ⟨(gd + 1), 3, none⟩ = some (.slice A3 x.parts.length c3) := hbx.cell 3
  have x4 : V.cell? ⟨(gd + 1), 4, none⟩ = some (.slice A4 x.flows.length c4) := hbx.cell 4
  have x5 : V.cell? ⟨(gd + 1), 5, none⟩ = some (.bool x.loop) := hbx.cell 5
  have x6 : V.cell? ⟨(gd + 1), 6, none⟩ = some (.string x.called) := hbx.cell 6
  have x7 : V.cell? ⟨(gd + 1), 7, none⟩ = some (.slice A7 x.maps.length c7) := hbx.cell 7
  have x8 : V.cell? ⟨(gd + 1), 8, none⟩ = some (.slice A8 x.items.length c8) := hbx.cell 8
  have x9 : V.cell? ⟨(gd + 1), 9, none⟩ = some (.slice A9 x.seqs.length c9) := hbx.cell 9
  have y0 : V.cell? ⟨gd, 0, none⟩ = some (.slice A1 d.msgs.length c1) := hbd.cell 0
  have y1 : V.cell? ⟨gd, 1, none⟩ = some (.slice B1 d.chors.length k1) := hbd.cell 1
  have lgx := hbx.lt
  have lgd := hbd.lt
  have HCALL := Lib.hid hcall
  have HR := Lib.hid hr
  have HIN := Lib.hid hin
  have HM := Lib.hid hM
  have HCS := Lib.hid (Rd.below bV _ _ hcs)
  have HBV := Lib.hid bV
  have HV := Lib.hid hV.symm
  have HG := Lib.hid hgd.symm
  clear hcall hr hin hM bV hbd hbx hV hgd hcs hX z1 hp hMl hMm
  go_enter Try.func84, Try.ntmps84
  go_upto_region 1 with fail
  rw [HV.out, HG.out]
  clear HV
  go_wp2_with fail
  refine HCALL.out.mono ?_
  rintro e w1 ⟨rfl, hb1⟩
  have HB1 := Lib.hid hb1
  clear hb1 HCALL
  have u7 : w1.cell? ⟨gd + 1, 7, none⟩ = some (.slice A7 x.maps.length c7) := (HB1.out.cell (p := ⟨gd + 1, 7, none⟩) lgx).trans x7
  have u1 : w1.cell? ⟨gd, 1, none⟩ = some (.slice B1 d.chors.length k1) := (HB1.out.cell (p := ⟨gd, 1, none⟩) lgd).trans y1
  have lgx1 : gd + 1 < w1.heap.size := Nat.lt_of_lt_of_le lgx HB1.out.size
  have lgd1 : gd < w1.heap.size := Nat.lt_of_lt_of_le lgd HB1.out.size
  go_upto_region 2 with fail
  by_cases hq0 : q < 0
  · have hr := HR.out
    rw [show decide (0 ≤ q) = false by simp; omega, Bool.false_and] at hr
    subst hr
    have hqb : decide (q < 0) = true := by simpa using hq0
    clear HR HIN
    refine wp_region_HT 14 (fun U => Below w1.heap.size w1 U) (by kernel_rfl) (by decide) ((Below.refl _ _).drew) (fun hHeld => ?_)
    refine ht_take 0 (v := ?va_1) rfl (by kernel_rfl) (fun _ _ _ h => h) (Or.inl ⟨by rfl, ?ha_1⟩) hHeld ?ra_1
    case ha_1 => ((intro U hSw; go_simp); (try (with_reducible rfl)))
    try simp only [Act.put, List.setIfInBounds_toArray, List.set_cons_zero, List.set_cons_succ]
    refine ht_take 1 (v := ?va_2) rfl (by kernel_rfl) (fun _ _ _ h => h) (Or.inl ⟨by rfl, ?ha_2⟩) hHeld ?ra_2
    case ha_2 => ((intro U hSw; go_simp); (try (with_reducible rfl)))
    try simp only [Act.put, List.setIfInBounds_toArray, List.set_cons_zero, List.set_cons_succ]
    refine ht_take 2 (v := ?va_3) rfl (by kernel_rfl) (fun _ _ _ h => h) (Or.inl ⟨by rfl, ?ha_3⟩) hHeld ?ra_3
    case ha_3 => ((intro U hSw; go_simp); (try (with_reducible rfl)))
    try simp only [Act.put, List.setIfInBounds_toArray, List.set_cons_zero, List.set_cons_succ]
    refine ht_take 3 (v := undef) rfl (by kernel_rfl) (fun _ _ _ h => h) (Or.inr ⟨by rfl, rfl⟩) hHeld ?ra_4
    try simp only [Act.put, List.setIfInBounds_toArray, List.set_cons_zero, List.set_cons_succ]
    refine ht_take 4 (v := undef) rfl (by kernel_rfl) (fun _ _ _ h => h) (Or.inr ⟨by rfl, rfl⟩) hHeld ?ra_5
    try simp only [Act.put, List.setIfInBounds_toArray, List.set_cons_zero, List.set_cons_succ]
    refine ht_take 5 (v := undef) rfl (by kernel_rfl) (fun _ _ _ h => h) (Or.inr ⟨by rfl, rfl⟩) hHeld ?ra_6
    try simp only [Act.put, List.setIfInBounds_toArray, List.set_cons_zero, List.set_cons_succ]
    refine ht_take 6 (v := undef) rfl (by kernel_rfl) (fun _ _ _ h => h) (Or.inr ⟨by rfl, rfl⟩) hHeld ?ra_7
    try simp only [Act.put, List.setIfInBounds_toArray, List.set_cons_zero, List.set_cons_succ]
    refine ht_take 7 (v := undef) rfl (by kernel_rfl) (fun _ _ _ h => h) (Or.inr ⟨by rfl, rfl⟩) hHeld ?ra_8
    try simp only [Act.put, List.setIfInBounds_toArray, List.set_cons_zero, List.set_cons_succ]
    refine ht_take 8 (v := undef) rfl (by kernel_rfl) (fun _ _ _ h => h) (Or.inr ⟨by rfl, rfl⟩) hHeld ?ra_9
    try simp only [Act.put, List.setIfInBounds_toArray, List.set_cons_zero, List.set_cons_succ]
    refine ht_take 9 (v := undef) rfl (by kernel_rfl) (fun _ _ _ h => h) (Or.inr ⟨by rfl, rfl⟩) hHeld ?ra_10
    try simp only [Act.put, List.setIfInBounds_toArray, List.set_cons_zero, List.set_cons_succ]
    refine ht_take 10 (v := undef) rfl (by kernel_rfl) (fun _ _ _ h => h) (Or.inr ⟨by rfl, rfl⟩) hHeld ?ra_11
    try simp only [Act.put, List.setIfInBounds_toArray, List.set_cons_zero, List.set_cons_succ]
    refine ht_take 11 (v := undef) rfl (by kernel_rfl) (fun _ _ _ h => h) (Or.inr ⟨by rfl, rfl⟩) hHeld ?ra_12
    try simp only [Act.put, List.setIfInBounds_toArray, List.set_cons_zero, List.set_cons_succ]
    refine ht_take 12 (v := undef) rfl (by kernel_rfl) (fun _ _ _ h => h) (Or.inr ⟨by rfl, rfl⟩) hHeld ?ra_13
    try simp only [Act.put, List.setIfInBounds_toArray, List.set_cons_zero, List.set_cons_succ]
    refine ht_take 13 (v := undef) rfl (by kernel_rfl) (fun _ _ _ h => h) (Or.inr ⟨by rfl, rfl⟩) hHeld ?ra_14
    try simp only [Act.put, List.setIfInBounds_toArray, List.set_cons_zero, List.set_cons_succ]
    refine ht_done (by kernel_rfl) rfl ?_
    have HH := Lib.hid hHeld
    clear hHeld
    go_wp2_with fail
    go_ret
    exact ⟨rfl, HBV.out.trans ((HB1.out.trans (HH.out.mono HB1.out.size)).mono HBV.out.size)⟩
  · obtain ⟨j, hj, hjq⟩ := HIN.out (by omega)
    rw [Nat.zero_add] at hjq
    subst hjq
    have hr := HR.out
    rw [show decide (0 ≤ (j : Int)) = true by simp, Bool.true_and, Int.toNat_natCast] at hr
    have hqb : decide ((j : Int) < 0) = false := by simp
    have hgj : d.chors.getD j noChor = d.chors[j] := by rw [List.getD_eq_getElem?_getD, List.getElem?_eq_getElem hj]; rfl
    rw [hgj] at hr
    obtain ⟨_, _, hfv, _, _, hatC⟩ := rd_at chorC_len HCS.out
    injection hfv with e1 e2 e3
    clear e2
    subst e1
    subst e3
    obtain ⟨bC, vs, rfl, hbC, _, hvs, hcell⟩ := hatC j hj
    obtain ⟨y, hy⟩ : ∃ y, y = d.chors[j] := ⟨_, rfl⟩
    rw [← hy] at hvs hr
    obtain ⟨vP, vF, vI, vS, rfl, hP, _, _, _⟩ := rd_chorC.1 hvs
    obtain ⟨AP, cP, rfl⟩ := rd_form hP
    have eP : w1.cell? ⟨bC, j * 5 + 1, none⟩ = some (.slice AP y.parts.length cP) := (HB1.out.cell (p := ⟨bC, j * 5 + 1, none⟩) hbC).trans (hcell 1 (by omega))
    have lbC : bC < w1.heap.size := Nat.lt_of_lt_of_le hbC HB1.out.size
    have hjI : (j : Int) < (d.chors.length : Int) := by omega
    have HR := Lib.hid hr
    clear hr hgj hatC hvs hcell hy HIN hq0 hP
    by_cases hlen : x.maps.length = y.parts.length
    · have hr := HR.out
      rw [show decide (x.maps.length = y.parts.length) = true by simpa using hlen, Bool.true_and] at hr
      have hlb : ((x.maps.length : Int) != (y.parts.length : Int)) = false := by simp; omega
      have HR := Lib.hid hr
      clear hr hlen
      have HY_c := Lib.hid (fun (U : World) (hSw : (fun U => Below w1.heap.size w1 U) U) => And.intro (show U.cell? ⟨gd + 1, 7, none⟩ = some (.slice A7 x.maps.length c7) from (hSw.cell (p := ⟨gd + 1, 7, none⟩) lgx1).trans u7) (And.intro (show U.cell? ⟨gd, 1, none⟩ = some (.slice (some ⟨bC, 0, none⟩) d.chors.length k1) from (hSw.cell (p := ⟨gd, 1, none⟩) lgd1).trans u1) ((show U.cell? ⟨bC, j * 5 + 1, none⟩ = some (.slice AP y.parts.length cP) from (hSw.cell (p := ⟨bC, j * 5 + 1, none⟩) lbC).trans eP))))
      refine wp_region_HT 14 (fun U => Below w1.heap.size w1 U) (by kernel_rfl) (by decide) ((Below.refl _ _).drew) (fun hHeld => ?_)
      refine ht_take 0 (v := ?vc_1) rfl (by kernel_rfl) (fun _ _ _ h => h) (Or.inl ⟨by rfl, ?hc_1⟩) hHeld ?rc_1
      case hc_1 => ((intro U hSw; obtain ⟨q7, q1, qP⟩ := HY_c.out U hSw; go_simp); (try (with_reducible rfl)))
      try simp only [Act.put, List.setIfInBounds_toArray, List.set_cons_zero, List.set_cons_succ]
      refine ht_take 1 (v := ?vc_2) rfl (by kernel_rfl) (fun _ _ _ h => h) (Or.inl ⟨by rfl, ?hc_2⟩) hHeld ?rc_2
      case hc_2 => ((intro U hSw; obtain ⟨q7, q1, qP⟩ := HY_c.out U hSw; go_simp); (try (with_reducible rfl)))
      try simp only [Act.put, List.setIfInBounds_toArray, List.set_cons_zero, List.set_cons_succ]
      refine ht_take 2 (v := ?vc_3) rfl (by kernel_rfl) (fun _ _ _ h => h) (Or.inl ⟨by rfl, ?hc_3⟩) hHeld ?rc_3
      case hc_3 => ((intro U hSw; obtain ⟨q7, q1, qP⟩ := HY_c.out U hSw; go_simp); (try (with_reducible rfl)))
      try simp only [Act.put, List.setIfInBounds_toArray, List.set_cons_zero, List.set_cons_succ]
      refine ht_take 3 (v := ?vc_4) rfl (by kernel_rfl) (fun _ _ _ h => h) (Or.inl ⟨by rfl, ?hc_4⟩) hHeld ?rc_4
      case hc_4 => ((intro U hSw; obtain ⟨q7, q1, qP⟩ := HY_c.out U hSw; go_simp); (try (with_reducible rfl)))
      try simp only [Act.put, List.setIfInBounds_toArray, List.set_cons_zero, List.set_cons_succ]
      refine ht_take 4 (v := ?vc_5) rfl (by kernel_rfl) (fun _ _ _ h => h) (Or.inl ⟨by rfl, ?hc_5⟩) hHeld ?rc_5
      case hc_5 => ((intro U hSw; obtain ⟨q7, q1, qP⟩ := HY_c.out U hSw; go_simp); (try (with_reducible rfl)))
      try simp only [Act.put, List.setIfInBounds_toArray, List.set_cons_zero, List.set_cons_succ]
      refine ht_take 5 (v := ?vc_6) rfl (by kernel_rfl) (fun _ _ _ h => h) (Or.inl ⟨by rfl, ?hc_6⟩) hHeld ?rc_6
      case hc_6 => ((intro U hSw; obtain ⟨q7, q1, qP⟩ := HY_c.out U hSw; go_simp); (try (with_reducible rfl)))
      try simp only [Act.put, List.setIfInBounds_toArray, List.set_cons_zero, List.set_cons_succ]
      refine ht_take 6 (v := ?vc_7) rfl (by kernel_rfl) (fun _ _ _ h => h) (Or.inl ⟨by rfl, ?hc_7⟩) hHeld ?rc_7
      case hc_7 => ((intro U hSw; obtain ⟨q7, q1, qP⟩ := HY_c.out U hSw; go_simp); (try (with_reducible rfl)))
      try simp only [Act.put, List.setIfInBounds_toArray, List.set_cons_zero, List.set_cons_succ]
      refine ht_take 7 (v := ?vc_8) rfl (by kernel_rfl) (fun _ _ _ h => h) (Or.inl ⟨by rfl, ?hc_8⟩) hHeld ?rc_8
      case hc_8 => ((intro U hSw; obtain ⟨q7, q1, qP⟩ := HY_c.out U hSw; go_simp); (try (with_reducible rfl)))
      try simp only [Act.put, List.setIfInBounds_toArray, List.set_cons_zero, List.set_cons_succ]
      refine ht_take 8 (v := ?vc_9) rfl (by kernel_rfl) (fun _ _ _ h => h) (Or.inl ⟨by rfl, ?hc_9⟩) hHeld ?rc_9
      case hc_9 => ((intro U hSw; obtain ⟨q7, q1, qP⟩ := HY_c.out U hSw; go_simp); (try (with_reducible rfl)))
      try simp only [Act.put, List.setIfInBounds_toArray, List.set_cons_zero, List.set_cons_succ]
      refine ht_take 9 (v := ?vc_10) rfl (by kernel_rfl) (fun _ _ _ h => h) (Or.inl ⟨by rfl, ?hc_10⟩) hHeld ?rc_10
      case hc_10 => ((intro U hSw; obtain ⟨q7, q1, qP⟩ := HY_c.out U hSw; go_simp); (try (with_reducible rfl)))
      try simp only [Act.put, List.setIfInBounds_toArray, List.set_cons_zero, List.set_cons_succ]
      refine ht_take 10 (v := ?vc_11) rfl (by kernel_rfl) (fun _ _ _ h => h) (Or.inl ⟨by rfl, ?hc_11⟩) hHeld ?rc_11
      case hc_11 => ((intro U hSw; obtain ⟨q7, q1, qP⟩ := HY_c.out U hSw; go_simp); (try (with_reducible rfl)))
      try simp only [Act.put, List.setIfInBounds_toArray, List.set_cons_zero, List.set_cons_succ]
      refine ht_take 11 (v := ?vc_12) rfl (by kernel_rfl) (fun _ _ _ h => h) (Or.inl ⟨by rfl, ?hc_12⟩) hHeld ?rc_12
      case hc_12 => ((intro U hSw; obtain ⟨q7, q1, qP⟩ := HY_c.out U hSw; go_simp); (try (with_reducible rfl)))
      try simp only [Act.put, List.setIfInBounds_toArray, List.set_cons_zero, List.set_cons_succ]
      refine ht_take 12 (v := ?vc_13) rfl (by kernel_rfl) (fun _ _ _ h => h) (Or.inl ⟨by rfl, ?hc_13⟩) hHeld ?rc_13
      case hc_13 => ((intro U hSw; obtain ⟨q7, q1, qP⟩ := HY_c.out U hSw; go_simp); (try (with_reducible rfl)))
      try simp only [Act.put, List.setIfInBounds_toArray, List.set_cons_zero, List.set_cons_succ]
      refine ht_take 13 (v := ?vc_14) rfl (by kernel_rfl) (fun _ _ _ h => h) (Or.inl ⟨by rfl, ?hc_14⟩) hHeld ?rc_14
      case hc_14 => ((intro U hSw; obtain ⟨q7, q1, qP⟩ := HY_c.out U hSw; go_simp); (try (with_reducible rfl)))
      try simp only [Act.put, List.setIfInBounds_toArray, List.set_cons_zero, List.set_cons_succ]
      refine ht_done (by kernel_rfl) rfl ?_
      have HH := Lib.hid hHeld
      clear hHeld
      have t7 : w1.drew.cell? ⟨gd + 1, 7, none⟩ = some (.slice A7 x.maps.length c7) := u7
      go_wp2_with fail
      clear t7
      go_loopw [30] (fun kv wr => ∃ k : Nat, k ≤ x.maps.length ∧ kv = .int .i64 k ∧ Hid (noTw (x.maps.take k) (x.maps.drop k) = r) ∧ Below w1.heap.size w1 wr) (fun kv _ => x.maps.length - (intOf kv).toNat)
      case atStart => exact ⟨0, Nat.zero_le _, rfl, HR.out.symm, (Below.refl _ _).drew⟩
      case round =>
        obtain ⟨k, hk, rfl, hinv, hB⟩ := hrel
        obtain ⟨T, rfl⟩ : ∃ T, T = wr := ⟨_, rfl⟩
        have bT := HB1.out.trans (hB.mono HB1.out.size)
        have HBT := Lib.hid bT
        by_cases hlt : k < x.maps.length
        · have hi := hinv.out
          rw [List.drop_eq_getElem_cons hlt, noTw] at hi
          obtain ⟨_, _, hfv, _, _, hatM⟩ := rd_atO mapC_len HM.out
          injection hfv with e1 e2 e3
          clear e2
          subst e1
          subst e3
          obtain ⟨bM, oM, rfl, hbM, hat2⟩ := hatM (by omega)
          obtain ⟨vs, _, hvs, hcell⟩ := hat2 k hlt
          clear hat2
          have htk : x.maps.take k ++ [x.maps[k]] = x.maps.take (k + 1) := (List.take_succ_eq_append_getElem hlt).symm
          rw [htk] at hi
          obtain ⟨m, hm⟩ : ∃ m, m = x.maps[k] := ⟨_, rfl⟩
          rw [← hm] at hvs hi
          obtain rfl := rd_mapC hvs
          have m0 : T.cell? ⟨bM, oM + k * 2, none⟩ = some (.string m.inner) := (bT.cell (p := ⟨bM, oM + k * 2, none⟩) hbM).trans (hcell 0 (by omega))
          have m1 : T.cell? ⟨bM, oM + k * 2 + 1, none⟩ = some (.string m.outer) := (bT.cell (p := ⟨bM, oM + k * 2 + 1, none⟩) hbM).trans (hcell 1 (by omega))
          obtain ⟨T2, hT2⟩ : ∃ T', T' = T.alloc (.cells #[.string m.inner, .string m.outer] 71) := ⟨_, rfl⟩
          obtain ⟨gm, hgm⟩ : ∃ g, g = T.heap.size := ⟨_, rfl⟩
          have hbm : Blk T2 gm 71 #[.string m.inner, .string m.outer] := by rw [hT2, hgm]; exact Blk.new _ _ _
          have bT2 : Below T.heap.size T T2 := by rw [hT2]; exact (Below.refl _ _).alloc (Nat.le_refl _) _
          have bVT := bT.trans (bT2.mono bT.size)
          have hfr := rd_frontO mapC_len rfl (Rd.below bVT _ _ HM.out) k hk
          have hcl : ∀ p ∈ x.maps.take k, ∀ U, Below T2.heap.size T2 U → Calls Try.prog 86 #[.agg #[.string p.inner, .string p.outer], .pointer (some ⟨gm, 0, none⟩)] U fun e w' => e = .returned (.bool (mapTw m p)) ∧ Below U.heap.size U w' := fun p _ U hU => mapTwice_any p m (hbm.below hU hbm.lt)
          have hcall := anyMP_any (mapTw m) hcl hfr
          obtain ⟨b, hb⟩ : ∃ b, b = (x.maps.take k).any (mapTw m) := ⟨_, rfl⟩
          rw [← hb] at hcall hi
          have HCALL := Lib.hid hcall
          have HI := Lib.hid hi
          have HT2 := Lib.hid hT2.symm
          have HGM := Lib.hid hgm.symm
          have v7 : T2.cell? ⟨gd + 1, 7, none⟩ = some (.slice (some ⟨bM, oM, none⟩) x.maps.length c7) := (bVT.cell (p := ⟨gd + 1, 7, none⟩) lgx).trans x7
          have HB2 := Lib.hid (hB.trans (bT2.mono hB.size))
          have hkI : (k : Int) < (x.maps.length : Int) := by omega
          have hkI2 : (k : Int) ≤ (x.maps.length : Int) := by omega
          have hc7 : x.maps.length ≤ c7 := by
            obtain ⟨_, _, hv, h1, _⟩ := rd_atO mapC_len HM.out
            injection hv with _ _ e3
            all_goals omega
          have hc7I : (k : Int) ≤ (c7 : Int) := by omega
          clear hcall hi hT2 hgm hbm bT2 bVT hfr hcl hb hvs hcell hatM hm hinv bT hB htk
          go_upto_region 7 with fail
          rw [HT2.out, HGM.out]
          clear HT2
          go_wp2_with fail
          refine HCALL.out.mono ?_
          rintro e w5 ⟨rfl, hb5⟩
          have HB5 := Lib.hid (HB2.out.trans (hb5.mono HB2.out.size))
          clear hb5 HCALL
          cases b
          · have hi := HI.out
            rw [Bool.not_false, Bool.true_and] at hi
            have HN := Lib.hid hi
            clear hi HI
            go_wp2_with fail
            go_roundw
            case rel => exact ⟨k + 1, by omega, by go_num, HN, HB5.out⟩
            case measure => simp [intOf]; omega
          · have hi := HI.out
            rw [Bool.not_true, Bool.false_and] at hi
            subst hi
            clear HI
            have HF := Lib.hid (HBV.out.trans ((HB1.out.trans (HB5.out.mono HB1.out.size)).mono HBV.out.size))
            go_wp2_with fail
            go_ret
            exact ⟨rfl, HF.out⟩
        · have hi := hinv.out
          rw [List.drop_eq_nil_of_le (by omega), noTw] at hi
          subst hi
          have HF := Lib.hid (HBV.out.trans (bT.mono HBV.out.size))
          clear bT hB hinv
          go_wp2_with fail
          go_ret
          exact ⟨rfl, HF.out⟩
    · have hr := HR.out
      rw [show decide (x.maps.length = y.parts.length) = false by simpa using hlen, Bool.false_and] at hr
      subst hr
      have hlb : ((x.maps.length : Int) != (y.parts.length : Int)) = true := by simp; omega
      clear HR hlen
      have HY_b := Lib.hid (fun (U : World) (hSw : (fun U => Below w1.heap.size w1 U) U) => And.intro (show U.cell? ⟨gd + 1, 7, none⟩ = some (.slice A7 x.maps.length c7) from (hSw.cell (p := ⟨gd + 1, 7, none⟩) lgx1).trans u7) (And.intro (show U.cell? ⟨gd, 1, none⟩ = some (.slice (some ⟨bC, 0, none⟩) d.chors.length k1) from (hSw.cell (p := ⟨gd, 1, none⟩) lgd1).trans u1) ((show U.cell? ⟨bC, j * 5 + 1, none⟩ = some (.slice AP y.parts.length cP) from (hSw.cell (p := ⟨bC, j * 5 + 1, none⟩) lbC).trans eP))))
      refine wp_region_HT 14 (fun U => Below w1.heap.size w1 U) (by kernel_rfl) (by decide) ((Below.refl _ _).drew) (fun hHeld => ?_)
      refine ht_take 0 (v := ?vb_1) rfl (by kernel_rfl) (fun _ _ _ h => h) (Or.inl ⟨by rfl, ?hb_1⟩) hHeld ?rb_1
      case hb_1 => ((intro U hSw; obtain ⟨q7, q1, qP⟩ := HY_b.out U hSw; go_simp); (try (with_reducible rfl)))
      try simp only [Act.put, List.setIfInBounds_toArray, List.set_cons_zero, List.set_cons_succ]
      refine ht_take 1 (v := ?vb_2) rfl (by kernel_rfl) (fun _ _ _ h => h) (Or.inl ⟨by rfl, ?hb_2⟩) hHeld ?rb_2
      case hb_2 => ((intro U hSw; obtain ⟨q7, q1, qP⟩ := HY_b.out U hSw; go_simp); (try (with_reducible rfl)))
      try simp only [Act.put, List.setIfInBounds_toArray, List.set_cons_zero, List.set_cons_succ]
      refine ht_take 2 (v := ?vb_3) rfl (by kernel_rfl) (fun _ _ _ h => h) (Or.inl ⟨by rfl, ?hb_3⟩) hHeld ?rb_3
      case hb_3 => ((intro U hSw; obtain ⟨q7, q1, qP⟩ := HY_b.out U hSw; go_simp); (try (with_reducible rfl)))
      try simp only [Act.put, List.setIfInBounds_toArray, List.set_cons_zero, List.set_cons_succ]
      refine ht_take 3 (v := ?vb_4) rfl (by kernel_rfl) (fun _ _ _ h => h) (Or.inl ⟨by rfl, ?hb_4⟩) hHeld ?rb_4
      case hb_4 => ((intro U hSw; obtain ⟨q7, q1, qP⟩ := HY_b.out U hSw; go_simp); (try (with_reducible rfl)))
      try simp only [Act.put, List.setIfInBounds_toArray, List.set_cons_zero, List.set_cons_succ]
      refine ht_take 4 (v := ?vb_5) rfl (by kernel_rfl) (fun _ _ _ h => h) (Or.inl ⟨by rfl, ?hb_5⟩) hHeld ?rb_5
      case hb_5 => ((intro U hSw; obtain ⟨q7, q1, qP⟩ := HY_b.out U hSw; go_simp); (try (with_reducible rfl)))
      try simp only [Act.put, List.setIfInBounds_toArray, List.set_cons_zero, List.set_cons_succ]
      refine ht_take 5 (v := ?vb_6) rfl (by kernel_rfl) (fun _ _ _ h => h) (Or.inl ⟨by rfl, ?hb_6⟩) hHeld ?rb_6
      case hb_6 => ((intro U hSw; obtain ⟨q7, q1, qP⟩ := HY_b.out U hSw; go_simp); (try (with_reducible rfl)))
      try simp only [Act.put, List.setIfInBounds_toArray, List.set_cons_zero, List.set_cons_succ]
      refine ht_take 6 (v := ?vb_7) rfl (by kernel_rfl) (fun _ _ _ h => h) (Or.inl ⟨by rfl, ?hb_7⟩) hHeld ?rb_7
      case hb_7 => ((intro U hSw; obtain ⟨q7, q1, qP⟩ := HY_b.out U hSw; go_simp); (try (with_reducible rfl)))
      try simp only [Act.put, List.setIfInBounds_toArray, List.set_cons_zero, List.set_cons_succ]
      refine ht_take 7 (v := ?vb_8) rfl (by kernel_rfl) (fun _ _ _ h => h) (Or.inl ⟨by rfl, ?hb_8⟩) hHeld ?rb_8
      case hb_8 => ((intro U hSw; obtain ⟨q7, q1, qP⟩ := HY_b.out U hSw; go_simp); (try (with_reducible rfl)))
      try simp only [Act.put, List.setIfInBounds_toArray, List.set_cons_zero, List.set_cons_succ]
      refine ht_take 8 (v := ?vb_9) rfl (by kernel_rfl) (fun _ _ _ h => h) (Or.inl ⟨by rfl, ?hb_9⟩) hHeld ?rb_9
      case hb_9 => ((intro U hSw; obtain ⟨q7, q1, qP⟩ := HY_b.out U hSw; go_simp); (try (with_reducible rfl)))
      try simp only [Act.put, List.setIfInBounds_toArray, List.set_cons_zero, List.set_cons_succ]
      refine ht_take 9 (v := ?vb_10) rfl (by kernel_rfl) (fun _ _ _ h => h) (Or.inl ⟨by rfl, ?hb_10⟩) hHeld ?rb_10
      case hb_10 => ((intro U hSw; obtain ⟨q7, q1, qP⟩ := HY_b.out U hSw; go_simp); (try (with_reducible rfl)))
      try simp only [Act.put, List.setIfInBounds_toArray, List.set_cons_zero, List.set_cons_succ]
      refine ht_take 10 (v := ?vb_11) rfl (by kernel_rfl) (fun _ _ _ h => h) (Or.inl ⟨by rfl, ?hb_11⟩) hHeld ?rb_11
      case hb_11 => ((intro U hSw; obtain ⟨q7, q1, qP⟩ := HY_b.out U hSw; go_simp); (try (with_reducible rfl)))
      try simp only [Act.put, List.setIfInBounds_toArray, List.set_cons_zero, List.set_cons_succ]
      refine ht_take 11 (v := ?vb_12) rfl (by kernel_rfl) (fun _ _ _ h => h) (Or.inl ⟨by rfl, ?hb_12⟩) hHeld ?rb_12
      case hb_12 => ((intro U hSw; obtain ⟨q7, q1, qP⟩ := HY_b.out U hSw; go_simp); (try (with_reducible rfl)))
      try simp only [Act.put, List.setIfInBounds_toArray, List.set_cons_zero, List.set_cons_succ]
      refine ht_take 12 (v := ?vb_13) rfl (by kernel_rfl) (fun _ _ _ h => h) (Or.inl ⟨by rfl, ?hb_13⟩) hHeld ?rb_13
      case hb_13 => ((intro U hSw; obtain ⟨q7, q1, qP⟩ := HY_b.out U hSw; go_simp); (try (with_reducible rfl)))
      try simp only [Act.put, List.setIfInBounds_toArray, List.set_cons_zero, List.set_cons_succ]
      refine ht_take 13 (v := ?vb_14) rfl (by kernel_rfl) (fun _ _ _ h => h) (Or.inl ⟨by rfl, ?hb_14⟩) hHeld ?rb_14
      case hb_14 => ((intro U hSw; obtain ⟨q7, q1, qP⟩ := HY_b.out U hSw; go_simp); (try (with_reducible rfl)))
      try simp only [Act.put, List.setIfInBounds_toArray, List.set_cons_zero, List.set_cons_succ]
      refine ht_done (by kernel_rfl) rfl ?_
      have HH := Lib.hid hHeld
      clear hHeld
      go_wp2_with fail
      go_ret
      exact ⟨rfl, HBV.out.trans ((HB1.out.trans (HH.out.mono HB1.out.size)).mono HBV.out.size)⟩
set_option maxRecDepth 100000 in
set_option maxHeartbeats 16000000 in
theorem ruleItem_any {w : World} (d : DocD) (c : ChorD) (l : List ItemD) (s : List SeqD) (x : ItemD) {A1 B1 : Option Addr} {c1 k1 : Nat} {AP : Option Addr} {cP : Nat} {AF : Option Addr} {cF : Nat} {AI : Option Addr} {cI : Nat} {AS : Option Addr} {cS : Nat} {A3 A4 A7 A8 A9 : Option Addr} {c3 c4 c7 c8 c9 : Nat} {vl vs : Value} (hcs : Rd w (chorsD d.chors) (.slice B1 d.chors.length k1)) (hF : Rd w (flowsD c.flows) (.slice AF c.flows.length cF)) (hl : Rd w (itemsD l) vl) (hs : Rd w (seqsD s) vs)
    (hX : ItemV w x (.slice A3 x.parts.length c3) (.slice A4 x.flows.length c4) (.slice A7 x.maps.length c7) (.slice A8 x.items.length c8) (.slice A9 x.seqs.length c9)) :
    Calls Try.prog 70 #[.agg #[.slice A1 d.msgs.length c1, .slice B1 d.chors.length k1], .agg #[.string c.id, .slice AP c.parts.length cP, .slice AF c.flows.length cF, .slice AI c.items.length cI, .slice AS c.seqs.length cS], vl, vs, .agg #[.int .i64 x.kind, .string x.id, .string x.first, .slice A3 x.parts.length c3, .slice A4 x.flows.length c4, .bool x.loop, .string x.called, .slice A7 x.maps.length c7, .slice A8 x.items.length c8, .slice A9 x.seqs.length c9]] w fun e w' => e = .returned (.int .i64 (itemF d c l s x)) ∧ Below w.heap.size w w' := by
  obtain ⟨V, hV⟩ : ∃ V, V = ((w.alloc (.cells #[.slice A1 d.msgs.length c1, .slice B1 d.chors.length k1] 42)).alloc (.cells #[.string c.id, .slice AP c.parts.length cP, .slice AF c.flows.length cF, .slice AI c.items.length cI, .slice AS c.seqs.length cS] 54)).alloc (.cells #[.int .i64 x.kind, .string x.id, .string x.first, .slice A3 x.parts.length c3, .slice A4 x.flows.length c4, .bool x.loop, .string x.called, .slice A7 x.maps.length c7, .slice A8 x.items.length c8, .slice A9 x.seqs.length c9] 30) := ⟨_, rfl⟩
  obtain ⟨gd, hgd⟩ : ∃ g, g = w.heap.size := ⟨_, rfl⟩
  have z1 : (w.alloc (.cells #[.slice A1 d.msgs.length c1, .slice B1 d.chors.length k1] 42)).heap.size = w.heap.size + 1 := by simp
  have z2 : ((w.alloc (.cells #[.slice A1 d.msgs.length c1, .slice B1 d.chors.length k1] 42)).alloc (.cells #[.string c.id, .slice AP c.parts.length cP, .slice AF c.flows.length cF, .slice AI c.items.length cI, .slice AS c.seqs.length cS] 54)).heap.size = w.heap.size + 1 + 1 := by simp
  have bV : Below w.heap.size w V := by rw [hV]; exact (((Below.refl _ _).alloc (Nat.le_refl _) _).alloc (by simp) _).alloc (by simp; omega) _
  have hbd : Blk V gd 42 #[.slice A1 d.msgs.length c1, .slice B1 d.chors.length k1] := by rw [hV, hgd]; exact ((Blk.new w _ _).alloc _).alloc _
  have hbc : Blk V (gd + 1) 54 #[.string c.id, .slice AP c.parts.length cP, .slice AF c.flows.length cF, .slice AI c.items.length cI, .slice AS c.seqs.length cS] := by
    have := (Blk.new (w.alloc (.cells #[.slice A1 d.msgs.length c1, .slice B1 d.chors.length k1] 42)) 54 #[.string c.id, .slice AP c.parts.length cP, .slice AF c.flows.length cF, .slice AI c.items.length cI, .slice AS c.seqs.length cS]).alloc (.cells #[.int .i64 x.kind, .string x.id, .string x.first, .slice A3 x.parts.length c3, .slice A4 x.flows.length c4, .bool x.loop, .string x.called, .slice A7 x.maps.length c7, .slice A8 x.items.length c8, .slice A9 x.seqs.length c9] 30)
    rw [z1] at this
    rw [hV, hgd]; exact this
  have hbx : Blk V (gd + 1 + 1) 30 #[.int .i64 x.kind, .string x.id, .string x.first, .slice A3 x.parts.length c3, .slice A4 x.flows.length c4, .bool x.loop, .string x.called, .slice A7 x.maps.length c7, .slice A8 x.items.length c8, .slice A9 x.seqs.length c9] := by
    have := Blk.new ((w.alloc (.cells #[.slice A1 d.msgs.length c1, .slice B1 d.chors.length k1] 42)).alloc (.cells #[.string c.id, .slice AP c.parts.length cP, .slice AF c.flows.length cF, .slice AI c.items.length cI, .slice AS c.seqs.length cS] 54)) 30 #[.int .i64 x.kind, .string x.id, .string x.first, .slice A3 x.parts.length c3, .slice A4 x.flows.length c4, .bool x.loop, .string x.called, .slice A7 x.maps.length c7, .slice A8 x.items.length c8, .slice A9 x.seqs.length c9]
    rw [z2] at this
    rw [hV, hgd]; exact this
  obtain ⟨AL, cL, rfl⟩ := rd_form hl
  obtain ⟨AQ, cQ, rfl⟩ := rd_form hs
  obtain ⟨r, hr⟩ : ∃ r, r = itemF d c l s x := ⟨_, rfl⟩
  rw [← hr]
  unfold itemF at hr
  have hdeg := degree_any (w := V) (A3 := A3) (A4 := A4) (A7 := A7) (A8 := A8) (A9 := A9) (c3 := c3) (c4 := c4) (c7 := c7) (c8 := c8) (c9 := c9) x (Rd.below bV _ _ hs)
  have hev := fun U (k : Below V.heap.size V U) => event_any x.id (Rd.below (bV.trans (k.mono bV.size)) _ _ hl) (Rd.below (bV.trans (k.mono bV.size)) _ _ hs)
  have htk := fun U (k : Below V.heap.size V U) => ruleTask_any (AP := AP) (cP := cP) (AI := AI) (cI := cI) (AS := AS) (cS := cS) c x (Rd.below (bV.trans (k.mono bV.size)) _ _ hF) (hX.below (bV.trans (k.mono bV.size)))
  have hmp := fun U (k : Below V.heap.size V U) => mapped_any (A1 := A1) (c1 := c1) d x (Rd.below (bV.trans (k.mono bV.size)) _ _ hcs) (hX.below (bV.trans (k.mono bV.size)))
  obtain ⟨dg, hdg⟩ : ∃ n, n = degF s x.kind x.id := ⟨_, rfl⟩
  rw [← hdg] at hr hdeg
  obtain ⟨ev, hev'⟩ : ∃ b, b = evF l s x.id := ⟨_, rfl⟩
  obtain ⟨tk, htk'⟩ : ∃ b, b = taskF c x := ⟨_, rfl⟩
  obtain ⟨mp, hmp'⟩ : ∃ b, b = mappedF d x := ⟨_, rfl⟩
  rw [← hev', ← htk', ← hmp'] at hr
  rw [← hev'] at hev
  rw [← htk'] at htk
  rw [← hmp'] at hmp
  have x0 : V.cell? ⟨(gd + 1 + 1), 0, none⟩ = some (.int .i64 x.kind) := hbx.cell 0
  have x1 : V.cell? ⟨(gd + 1 + 1), 1, none⟩ = some (.string x.id) := hbx.cell 1
  have x2 : V.cell? ⟨(gd + 1 + 1), 2, none⟩ = some (.string x.first) := hbx.cell 2
  have x3 : V.cell? ⟨(gd + 1 + 1), 3, none⟩ = some (.slice A3 x.parts.length c3) := hbx.cell 3
  have x4 : V.cell? ⟨(gd + 1 + 1), 4, none⟩ = some (.slice A4 x.flows.length c4) := hbx.cell 4
  have x5 : V.cell? ⟨(gd + 1 + 1), 5, none⟩ = some (.bool x.loop) := hbx.cell 5
  have x6 : V.cell? ⟨(gd + 1 + 1), 6, none⟩ = some (.string x.called) := hbx.cell 6
  have x7 : V.cell? ⟨(gd + 1 + 1), 7, none⟩ = some (.slice A7 x.maps.length c7) := hbx.cell 7
  have x8 : V.cell? ⟨(gd + 1 + 1), 8, none⟩ = some (.slice A8 x.items.length c8) := hbx.cell 8
  have x9 : V.cell? ⟨(gd + 1 + 1), 9, none⟩ = some (.slice A9 x.seqs.length c9) := hbx.cell 9
  have y0 : V.cell? ⟨gd, 0, none⟩ = some (.slice A1 d.msgs.length c1) := hbd.cell 0
  have y1 : V.cell? ⟨gd, 1, none⟩ = some (.slice B1 d.chors.length k1) := hbd.cell 1
  have z0 : V.cell? ⟨(gd + 1), 0, none⟩ = some (.string c.id) := hbc.cell 0
  have z1 : V.cell? ⟨(gd + 1), 1, none⟩ = some (.slice AP c.parts.length cP) := hbc.cell 1
  have z2 : V.cell? ⟨(gd + 1), 2, none⟩ = some (.slice AF c.flows.length cF) := hbc.cell 2
  have z3 : V.cell? ⟨(gd + 1), 3, none⟩ = some (.slice AI c.items.length cI) := hbc.cell 3
  have z4 : V.cell? ⟨(gd + 1), 4, none⟩ = some (.slice AS c.seqs.length cS) := hbc.cell 4
  have lgx := hbx.lt
  have lgd := hbd.lt
  have lgc := hbc.lt
  have HR := Lib.hid hr
  have HDEG := Lib.hid hdeg
  have HEV := Lib.hid hev
  have HTK := Lib.hid htk
  have HMP := Lib.hid hmp
  have HBV := Lib.hid bV
  have HBD := Lib.hid hbd
  have HBC := Lib.hid hbc
  have HBX := Lib.hid hbx
  have HV := Lib.hid hV.symm
  have HG := Lib.hid hgd.symm
  clear hr hdeg hev htk hmp bV hbd hbc hbx hV hgd hcs hF hl hs hX z1 z2 hev' htk' hmp' hdg
  go_enter Try.func70, Try.ntmps70
  go_upto_region 1 with fail
  rw [HV.out, HG.out]
  clear HV
  go_wp2_with fail
  refine HDEG.out.mono ?_
  rintro e w1 ⟨rfl, hb1⟩
  have HB1 := Lib.hid hb1
  clear hb1 HDEG x0 x1 x2 x3 x4 x5 x6 x7 x8 x9 y0 y1 z0 z1 z2 z3 z4
  by_cases hd0 : dg ≠ 0
  · have hr := HR.out
    rw [if_pos hd0] at hr
    have hdb : (dg != 0) = true := by simpa using hd0
    clear HR hd0
    subst hr
    have HF := Lib.hid (HBV.out.trans (HB1.out.mono HBV.out.size))
    go_wp2_with fail
    go_ret
    exact ⟨rfl, HF.out⟩
  · have hr := HR.out
    rw [if_neg hd0] at hr
    have hdb : (dg != 0) = false := by simpa using hd0
    clear HR
    have HR := Lib.hid hr
    clear hr hd0
    have x0 : w1.cell? ⟨(gd + 1 + 1), 0, none⟩ = some (.int .i64 x.kind) := (HBX.out.below HB1.out lgx).cell 0
    have x1 : w1.cell? ⟨(gd + 1 + 1), 1, none⟩ = some (.string x.id) := (HBX.out.below HB1.out lgx).cell 1
    have x2 : w1.cell? ⟨(gd + 1 + 1), 2, none⟩ = some (.string x.first) := (HBX.out.below HB1.out lgx).cell 2
    have x3 : w1.cell? ⟨(gd + 1 + 1), 3, none⟩ = some (.slice A3 x.parts.length c3) := (HBX.out.below HB1.out lgx).cell 3
    have x4 : w1.cell? ⟨(gd + 1 + 1), 4, none⟩ = some (.slice A4 x.flows.length c4) := (HBX.out.below HB1.out lgx).cell 4
    have x5 : w1.cell? ⟨(gd + 1 + 1), 5, none⟩ = some (.bool x.loop) := (HBX.out.below HB1.out lgx).cell 5
    have x6 : w1.cell? ⟨(gd + 1 + 1), 6, none⟩ = some (.string x.called) := (HBX.out.below HB1.out lgx).cell 6
    have x7 : w1.cell? ⟨(gd + 1 + 1), 7, none⟩ = some (.slice A7 x.maps.length c7) := (HBX.out.below HB1.out lgx).cell 7
    have x8 : w1.cell? ⟨(gd + 1 + 1), 8, none⟩ = some (.slice A8 x.items.length c8) := (HBX.out.below HB1.out lgx).cell 8
    have x9 : w1.cell? ⟨(gd + 1 + 1), 9, none⟩ = some (.slice A9 x.seqs.length c9) := (HBX.out.below HB1.out lgx).cell 9
    have lgx1 : gd + 1 + 1 < w1.heap.size := Nat.lt_of_lt_of_le lgx HB1.out.size
    have HF := Lib.hid (HBV.out.trans (HB1.out.mono HBV.out.size))
    have hr := HR.out
    by_cases k6 : x.kind = 6
    · have h6 : (x.kind == 6) = true := by simp [k6]
      have h3 : (x.kind == 3) = false := by simp [k6]
      have h8 : (x.kind == 8) = false := by simp [k6]
      simp only [h6, h3, h8, Bool.true_and, Bool.false_and, Bool.false_eq_true, if_false] at hr
      clear HR
      have HR := Lib.hid hr
      generalize x.kind = kd at *
      clear hr k6
      go_wp2_with fail
      refine (HEV.out w1 HB1.out).mono ?_
      rintro e w2 ⟨rfl, hb2⟩
      have HF2 := Lib.hid (HF.out.trans (hb2.mono HF.out.size))
      have x02 : w2.cell? ⟨gd + 1 + 1, 0, none⟩ = some (.int .i64 kd) := (hb2.cell (p := ⟨gd + 1 + 1, 0, none⟩) lgx1).trans x0
      clear hb2 HEV x0 x1 x2 x3 x4 x5 x6 x7 x8 x9
      cases ev
      · have hr := HR.out
        simp only [Bool.not_false, if_true] at hr
        subst hr
        clear HR
        go_wp2_with fail
        go_ret
        exact ⟨rfl, HF2.out⟩
      · have hr := HR.out
        simp only [Bool.not_true, Bool.false_eq_true, if_false] at hr
        subst hr
        clear HR
        go_wp2_with fail
        go_ret
        exact ⟨rfl, HF2.out⟩
    · have h6 : (x.kind == 6) = false := by simp [k6]
      by_cases k3 : x.kind = 3
      · have h3 : (x.kind == 3) = true := by simp [k3]
        have h8 : (x.kind == 8) = false := by simp [k3]
        simp only [h6, h3, h8, Bool.true_and, Bool.false_and, Bool.false_eq_true, if_false] at hr
        clear HR
        have HR := Lib.hid hr
        have zc0 : w1.cell? ⟨(gd + 1), 0, none⟩ = some (.string c.id) := (HBC.out.below HB1.out lgc).cell 0
        have zc1 : w1.cell? ⟨(gd + 1), 1, none⟩ = some (.slice AP c.parts.length cP) := (HBC.out.below HB1.out lgc).cell 1
        have zc2 : w1.cell? ⟨(gd + 1), 2, none⟩ = some (.slice AF c.flows.length cF) := (HBC.out.below HB1.out lgc).cell 2
        have zc3 : w1.cell? ⟨(gd + 1), 3, none⟩ = some (.slice AI c.items.length cI) := (HBC.out.below HB1.out lgc).cell 3
        have zc4 : w1.cell? ⟨(gd + 1), 4, none⟩ = some (.slice AS c.seqs.length cS) := (HBC.out.below HB1.out lgc).cell 4
        clear hr k3 k6
        go_wp2_with fail
        refine (HTK.out w1 HB1.out).mono ?_
        rintro e w2 ⟨rfl, hb2⟩
        have HF2 := Lib.hid (HF.out.trans (hb2.mono HF.out.size))
        have x02 : w2.cell? ⟨gd + 1 + 1, 0, none⟩ = some (.int .i64 x.kind) := (hb2.cell (p := ⟨gd + 1 + 1, 0, none⟩) lgx1).trans x0
        clear hb2 HTK x0 x1 x2 x3 x4 x5 x6 x7 x8 x9 zc0 zc1 zc2 zc3 zc4
        cases tk
        · have hr := HR.out
          simp only [Bool.not_false, if_true] at hr
          subst hr
          clear HR
          go_wp2_with fail
          go_ret
          exact ⟨rfl, HF2.out⟩
        · have hr := HR.out
          simp only [Bool.not_true, Bool.false_eq_true, if_false] at hr
          subst hr
          clear HR
          go_wp2_with fail
          go_ret
          exact ⟨rfl, HF2.out⟩
      · have h3 : (x.kind == 3) = false := by simp [k3]
        by_cases k8 : x.kind = 8
        · have h8 : (x.kind == 8) = true := by simp [k8]
          simp only [h6, h3, h8, Bool.true_and, Bool.false_and, Bool.false_eq_true, if_false] at hr
          clear HR
          have HR := Lib.hid hr
          have yd0 : w1.cell? ⟨gd, 0, none⟩ = some (.slice A1 d.msgs.length c1) := (HBD.out.below HB1.out lgd).cell 0
          have yd1 : w1.cell? ⟨gd, 1, none⟩ = some (.slice B1 d.chors.length k1) := (HBD.out.below HB1.out lgd).cell 1
          clear hr k3 k6 k8
          go_wp2_with fail
          refine (HMP.out w1 HB1.out).mono ?_
          rintro e w2 ⟨rfl, hb2⟩
          have HF2 := Lib.hid (HF.out.trans (hb2.mono HF.out.size))
          clear hb2 HMP x0 x1 x2 x3 x4 x5 x6 x7 x8 x9 yd0 yd1
          cases mp
          · have hr := HR.out
            simp only [Bool.not_false, if_true] at hr
            subst hr
            clear HR
            go_wp2_with fail
            go_ret
            exact ⟨rfl, HF2.out⟩
          · have hr := HR.out
            simp only [Bool.not_true, Bool.false_eq_true, if_false] at hr
            subst hr
            clear HR
            go_wp2_with fail
            go_ret
            exact ⟨rfl, HF2.out⟩
        · have h8 : (x.kind == 8) = false := by simp [k8]
          simp only [h6, h3, h8, Bool.false_and, Bool.false_eq_true, if_false] at hr
          subst hr
          generalize x.kind = kd at *
          clear k3 k6 k8 HR HEV HTK HMP
          go_wp2_with fail
          go_ret
          exact ⟨rfl, HF.out⟩
end Go.Proofs.Ytljmghaplnkohaa
namespace Go.Proofs.Ytljmghaplnkohaa
open Go.RowKit
attribute [local go_sem ↓] Go.wp_at_zero Go.wp_at_succ

def sameQ (q o : SeqD) : Bool := eqS o.src q.src && eqS o.dst q.dst
def seqBad (pre : List SeqD) : List SeqD → Int × ByteArray
  | [] => (0, ⟨#[]⟩)
  | q :: r => if (eqS q.src q.dst || pre.any (sameQ q)) = true then (7, q.id) else seqBad (pre ++ [q]) r
def endB (l : List ItemD) (within : Bool) : Bool := decide (kindN l 2 < 1) || (within && decide (1 < kindN l 2))
def preF (l : List ItemD) (s : List SeqD) (within : Bool) : Int × ByteArray :=
  if kindN l 1 ≠ 1 then (1, ⟨#[]⟩) else if endB l within = true then (2, ⟨#[]⟩) else seqBad [] s
def allReach (l : List ItemD) (s : List SeqD) : Prop := ∀ i : Nat, i < l.length → Reach l s i
open Classical in
noncomputable def postF (l : List ItemD) (s : List SeqD) : Int × ByteArray := if allReach l s then (0, ⟨#[]⟩) else (8, ⟨#[]⟩)
def lvl (a b c : Int × ByteArray) : Int × ByteArray := if a.1 ≠ 0 then a else if b.1 ≠ 0 then b else c
mutual
noncomputable def rulI (d : DocD) (c : ChorD) (L : List ItemD) (S : List SeqD) : ItemD → Int × ByteArray
  | ⟨kind, id, first, parts, flows, loop, called, maps, items, seqs⟩ =>
    if itemF d c L S ⟨kind, id, first, parts, flows, loop, called, maps, items, seqs⟩ ≠ 0 then (itemF d c L S ⟨kind, id, first, parts, flows, loop, called, maps, items, seqs⟩, id)
    else if kind = 7 then lvl (preF items seqs true) (rulL d c items seqs items) (postF items seqs) else (0, ⟨#[]⟩)
noncomputable def rulL (d : DocD) (c : ChorD) (L : List ItemD) (S : List SeqD) : List ItemD → Int × ByteArray
  | [] => (0, ⟨#[]⟩)
  | x :: l => if (rulI d c L S x).1 ≠ 0 then rulI d c L S x else rulL d c L S l
end
noncomputable def levelF (d : DocD) (c : ChorD) (l : List ItemD) (s : List SeqD) (within : Bool) : Int × ByteArray := lvl (preF l s within) (rulL d c l s l) (postF l s)
theorem rulI_eq (d : DocD) (c : ChorD) (L : List ItemD) (S : List SeqD) (x : ItemD) : rulI d c L S x = if itemF d c L S x ≠ 0 then (itemF d c L S x, x.id) else if x.kind = 7 then levelF d c x.items x.seqs true else (0, ⟨#[]⟩) := by
  obtain ⟨kind, id, first, parts, flows, loop, called, maps, items, seqs⟩ := x
  rw [rulI]
  rfl
theorem levelF_start {d : DocD} {c : ChorD} {l : List ItemD} {s : List SeqD} {b : Bool} (h : kindN l 1 ≠ 1) : levelF d c l s b = (1, ⟨#[]⟩) := by
  have hp : preF l s b = (1, ⟨#[]⟩) := by unfold preF; rw [if_pos h]
  unfold levelF lvl
  rw [hp]
  rfl
theorem levelF_end {d : DocD} {c : ChorD} {l : List ItemD} {s : List SeqD} {b : Bool} (h : kindN l 1 = 1) (h2 : endB l b = true) : levelF d c l s b = (2, ⟨#[]⟩) := by
  have hp : preF l s b = (2, ⟨#[]⟩) := by unfold preF; rw [if_neg (fun e => e h), if_pos h2]
  unfold levelF lvl
  rw [hp]
  rfl
theorem levelF_on {d : DocD} {c : ChorD} {l : List ItemD} {s : List SeqD} {b : Bool} (h : kindN l 1 = 1) (h2 : endB l b = false) : levelF d c l s b = if (seqBad [] s).1 ≠ 0 then seqBad [] s else if (rulL d c l s l).1 ≠ 0 then rulL d c l s l else postF l s := by
  have hp : preF l s b = seqBad [] s := by unfold preF; rw [if_neg (fun e => e h), if_neg (by rw [h2]; decide)]
  unfold levelF lvl
  rw [hp]
theorem places_all : ∀ (sn : List Bool) (k : Nat), (placesFrom (fun b : Bool => b) sn k).length = sn.length ↔ ∀ i, i < sn.length → sn[i]? = some true
  | [], k => by simp [placesFrom]
  | b :: l, k => by
    have ih := places_all l (k + 1)
    have hle := placesFrom_len (fun b : Bool => b) l (k + 1)
    rw [placesFrom]
    cases b
    · simp only [Bool.false_eq_true, if_false, List.length_cons]
      constructor
      · intro h; omega
      · intro h; have := h 0 (by omega); simp at this
    · simp only [if_true, List.length_cons]
      constructor
      · intro h i hi
        cases i with
        | zero => rfl
        | succ i => exact ih.1 (by omega) i (by omega)
      · intro h
        have := ih.2 (fun i hi => h (i + 1) (by omega))
        omega
/-- What level does. -/
def LvOk (d : DocD) (c : ChorD) (A1 B1 : Option Addr) (c1 k1 : Nat) (AP : Option Addr) (cP : Nat) (AF : Option Addr) (cF : Nat) (AI : Option Addr) (cI : Nat) (AS : Option Addr) (cS : Nat) (items : List ItemD) (seqs : List SeqD) : Prop := ∀ (w : World) (vI vS : Value) (within : Bool),
  Rd w (msgsD d.msgs) (.slice A1 d.msgs.length c1) → Rd w (chorsD d.chors) (.slice B1 d.chors.length k1) → Comp w c.parts c.flows c.items c.seqs AP cP AF cF AI cI AS cS → Rd w (itemsD items) vI → Rd w (seqsD seqs) vS →
  Calls Try.prog 51 #[.agg #[.slice A1 d.msgs.length c1, .slice B1 d.chors.length k1], .agg #[.string c.id, .slice AP c.parts.length cP, .slice AF c.flows.length cF, .slice AI c.items.length cI, .slice AS c.seqs.length cS], vI, vS, .bool within] w fun e w' => e = .returned (.tuple #[.int .i64 (levelF d c items seqs within).1, .string (levelF d c items seqs within).2]) ∧ Below w.heap.size w w'
set_option maxRecDepth 100000 in
set_option maxHeartbeats 32000000 in
theorem level_step {d : DocD} {c : ChorD} {A1 B1 : Option Addr} {c1 k1 : Nat} {AP : Option Addr} {cP : Nat} {AF : Option Addr} {cF : Nat} {AI : Option Addr} {cI : Nat} {AS : Option Addr} {cS : Nat} (items : List ItemD) (seqs : List SeqD) (hli : items.length ≤ 100000) (hls : seqs.length ≤ 100000) (ih : ∀ x ∈ items, x.kind = 7 → LvOk d c A1 B1 c1 k1 AP cP AF cF AI cI AS cS x.items x.seqs) : LvOk d c A1 B1 c1 k1 AP cP AF cF AI cI AS cS items seqs := by
  intro w vI vS within hm hcs hc hI hS
  obtain ⟨AX, cX, rfl⟩ := rd_form hI
  obtain ⟨AQ, cQ, rfl⟩ := rd_form hS
  obtain ⟨V, hV⟩ : ∃ V, V = (w.alloc (.cells #[.slice A1 d.msgs.length c1, .slice B1 d.chors.length k1] 42)).alloc (.cells #[.string c.id, .slice AP c.parts.length cP, .slice AF c.flows.length cF, .slice AI c.items.length cI, .slice AS c.seqs.length cS] 54) := ⟨_, rfl⟩
  obtain ⟨gd, hgd⟩ : ∃ g, g = w.heap.size := ⟨_, rfl⟩
  have zz1 : (w.alloc (.cells #[.slice A1 d.msgs.length c1, .slice B1 d.chors.length k1] 42)).heap.size = w.heap.size + 1 := by simp
  have bV : Below w.heap.size w V := by rw [hV]; exact ((Below.refl _ _).alloc (Nat.le_refl _) _).alloc (by simp) _
  have hbd : Blk V gd 42 #[.slice A1 d.msgs.length c1, .slice B1 d.chors.length k1] := by rw [hV, hgd]; exact (Blk.new w _ _).alloc _
  have hbc : Blk V (gd + 1) 54 #[.string c.id, .slice AP c.parts.length cP, .slice AF c.flows.length cF, .slice AI c.items.length cI, .slice AS c.seqs.length cS] := by
    have := Blk.new (w.alloc (.cells #[.slice A1 d.msgs.length c1, .slice B1 d.chors.length k1] 42)) 54 #[.string c.id, .slice AP c.parts.length cP, .slice AF c.flows.length cF, .slice AI c.items.length cI, .slice AS c.seqs.length cS]
    rw [zz1] at this
    rw [hV, hgd]; exact this
  have hcn := fun (kd : Int) U (k : Below V.heap.size V U) => count_any kd (Rd.below (bV.trans (k.mono bV.size)) _ _ hI)
  have h1 := fun h => levelF_start (d := d) (c := c) (l := items) (s := seqs) (b := within) h
  have h2 := fun h => levelF_end (d := d) (c := c) (l := items) (s := seqs) (b := within) h
  have h3 := fun h => levelF_on (d := d) (c := c) (l := items) (s := seqs) (b := within) h
  obtain ⟨r1, r2, hr⟩ : ∃ r1 r2, levelF d c items seqs within = (r1, r2) := ⟨_, _, rfl⟩
  rw [hr] at h1 h2 h3 ⊢
  dsimp only
  obtain ⟨n1, hn1⟩ : ∃ n, n = kindN items 1 := ⟨_, rfl⟩
  obtain ⟨n2, hn2⟩ : ∃ n, n = kindN items 2 := ⟨_, rfl⟩
  have hle1 := kindN_le items 1
  have hle2 := kindN_le items 2
  have hcn1 := hcn 1
  have hcn2 := hcn 2
  unfold endB at h2 h3
  rw [← hn1] at h1 h2 h3 hcn1 hle1
  rw [← hn2] at h2 h3 hcn2 hle2
  have H1 := Lib.hid h1
  have H2 := Lib.hid h2
  have H3 := Lib.hid h3
  have HC1 := Lib.hid hcn1
  have HC2 := Lib.hid hcn2
  have HMS := Lib.hid (Rd.below bV _ _ hm)
  have HCS := Lib.hid (Rd.below bV _ _ hcs)
  have HC := Lib.hid (hc.below bV)
  have HI := Lib.hid (Rd.below bV _ _ hI)
  have HS := Lib.hid (Rd.below bV _ _ hS)
  have HBD := Lib.hid hbd
  have HBC := Lib.hid hbc
  have HBV := Lib.hid bV
  have HV := Lib.hid hV.symm
  have HG := Lib.hid hgd.symm
  have HIH := Lib.hid ih
  have HLI := Lib.hid hli
  have HLS := Lib.hid hls
  have lgd := hbd.lt
  have lgc := hbc.lt
  clear h1 h2 h3 hcn hcn1 hcn2 hm hcs hc hI hS hbd hbc bV hV hgd ih hr hn1 hn2 zz1
  go_enter Try.func51, Try.ntmps51
  go_upto_region 1 with fail
  rw [HV.out, HG.out]
  clear HV
  go_wp2_with fail
  refine (HC1.out _ (Below.refl _ _)).mono ?_
  rintro e w1 ⟨rfl, hb1⟩
  have HB1 := Lib.hid hb1
  clear hb1 HC1
  by_cases kn1 : n1 ≠ 1
  · have hr := H1.out kn1
    injection hr with e1 e2
    subst e1
    subst e2
    have hnb : ((n1 : Int) != 1) = true := by simp; omega
    have HF := Lib.hid (HBV.out.trans (HB1.out.mono HBV.out.size))
    clear H1 H2 H3 kn1
    go_wp2_with fail
    go_ret2
    exact ⟨rfl, HF.out⟩
  · have hnb : ((n1 : Int) != 1) = false := by simp; omega
    have kn1 : n1 = 1 := by omega
    have H2 := Lib.hid (H2.out kn1)
    have H3 := Lib.hid (H3.out kn1)
    clear H1 kn1
    go_upto_region 3 with fail
    go_cut [23] (fun v wx => v = .bool (decide (n2 < 1) || (within && decide (1 < n2))) ∧ Below V.heap.size V wx)
    case first =>
      go_wp2_with fail
      refine (HC2.out _ HB1.out).mono ?_
      rintro e w2 ⟨rfl, hb2⟩
      have HB2 := Lib.hid (HB1.out.trans (hb2.mono HB1.out.size))
      clear hb2
      have e1 : decide ((n2 : Int) < 1) = decide (n2 < 1) := by rw [decide_eq_decide]; omega
      have e2 : decide ((1 : Int) < (n2 : Int)) = decide (1 < n2) := by rw [decide_eq_decide]; omega
      cases hlt : decide (n2 < 1)
      · rw [hlt] at e1
        have HLT := Lib.hid hlt
        cases within
        · clear e2 hlt H2 H3
          go_wp2_with fail
          go_meet
          case rel => exact ⟨by rw [HLT.out]; rfl, HB2.out⟩
        · clear hlt H2 H3
          go_wp2_with fail
          refine (HC2.out _ HB2.out).mono ?_
          rintro e w3 ⟨rfl, hb3⟩
          have HB3 := Lib.hid (HB2.out.trans (hb3.mono HB2.out.size))
          clear hb3
          cases hgt : decide (1 < n2)
          · rw [hgt] at e2
            have HGT := Lib.hid hgt
            clear hgt
            go_wp2_with fail
            go_meet
            case rel => exact ⟨by rw [HLT.out, HGT.out]; rfl, HB3.out⟩
          · rw [hgt] at e2
            have HGT := Lib.hid hgt
            clear hgt
            go_wp2_with fail
            go_meet
            case rel => exact ⟨by rw [HLT.out, HGT.out]; rfl, HB3.out⟩
      · rw [hlt] at e1
        have HLT := Lib.hid hlt
        clear e2 hlt H2 H3
        go_wp2_with fail
        go_meet
        case rel => exact ⟨by rw [HLT.out]; rfl, HB2.out⟩
    case rest =>
      obtain ⟨rfl, hB⟩ := hcut
      obtain ⟨w4, rfl⟩ : ∃ T, T = wc := ⟨_, rfl⟩
      have HB4 := Lib.hid hB
      clear hB HC2 HB1
      generalize (decide (n2 < 1) || (within && decide (1 < n2))) = eb at *
      cases eb
      · have hr := H3.out rfl
        obtain ⟨sb, hsb⟩ : ∃ x, x = seqBad [] seqs := ⟨_, rfl⟩
        obtain ⟨mm, hmm⟩ : ∃ x, x = rulL d c items seqs items := ⟨_, rfl⟩
        rw [← hsb, ← hmm] at hr
        have HSB := Lib.hid hsb
        have HMM := Lib.hid hmm
        have HR := Lib.hid hr
        clear hr hsb hmm H2 H3
        obtain ⟨_, _, hqv, hql, hqm, hatQ⟩ := rd_at seqC_len HS.out
        injection hqv with e1 e2 e3
        clear e2
        subst e1
        subst e3
        have HATQ := Lib.hid hatQ
        clear hatQ
        go_wp2_with fail
        go_loopw [37] (fun kv wr => ∃ k : Nat, k ≤ seqs.length ∧ kv = .int .i64 k ∧ Hid (seqBad (seqs.take k) (seqs.drop k) = sb) ∧ Below V.heap.size V wr) (fun kv _ => seqs.length - (intOf kv).toNat)
        case atStart => exact ⟨0, Nat.zero_le _, rfl, HSB.out.symm, HB4.out⟩
        case round =>
          obtain ⟨k, hk, rfl, hinv, hB⟩ := hrel
          obtain ⟨T, rfl⟩ : ∃ T, T = wr := ⟨_, rfl⟩
          by_cases hlt : k < seqs.length
          · obtain ⟨bQ, vs, rfl, hbQ, _, hvs, hcell⟩ := HATQ.out k hlt
            have hi := hinv.out
            rw [List.drop_eq_getElem_cons hlt, seqBad] at hi
            have htk : seqs.take k ++ [seqs[k]] = seqs.take (k + 1) := (List.take_succ_eq_append_getElem hlt).symm
            rw [htk] at hi
            obtain ⟨q, hq⟩ : ∃ q, q = seqs[k] := ⟨_, rfl⟩
            rw [← hq] at hvs hi
            obtain rfl := rd_seqC hvs
            have x0 : T.cell? ⟨bQ, k * 3, none⟩ = some (.string q.id) := (hB.cell (p := ⟨bQ, k * 3, none⟩) hbQ).trans (hcell 0 (by omega))
            have x1 : T.cell? ⟨bQ, k * 3 + 1, none⟩ = some (.string q.src) := (hB.cell (p := ⟨bQ, k * 3 + 1, none⟩) hbQ).trans (hcell 1 (by omega))
            have x2 : T.cell? ⟨bQ, k * 3 + 2, none⟩ = some (.string q.dst) := (hB.cell (p := ⟨bQ, k * 3 + 2, none⟩) hbQ).trans (hcell 2 (by omega))
            obtain ⟨T2, hT2⟩ : ∃ T', T' = T.alloc (.cells #[.string q.id, .string q.src, .string q.dst] 33) := ⟨_, rfl⟩
            obtain ⟨gq, hgq⟩ : ∃ g, g = T.heap.size := ⟨_, rfl⟩
            have hbq : Blk T2 gq 33 #[.string q.id, .string q.src, .string q.dst] := by rw [hT2, hgq]; exact Blk.new _ _ _
            have bT2 : Below T.heap.size T T2 := by rw [hT2]; exact (Below.refl _ _).alloc (Nat.le_refl _) _
            have bVT := hB.trans (bT2.mono hB.size)
            have HB2 := Lib.hid bVT
            have hfr := rd_front seqC_len rfl (Rd.below bVT _ _ HS.out) k hk
            have hcl : ∀ p ∈ seqs.take k, ∀ U, Below T2.heap.size T2 U → Calls Try.prog 69 #[.agg #[.string p.id, .string p.src, .string p.dst], .pointer (some ⟨gq, 0, none⟩)] U fun e w' => e = .returned (.bool (sameQ q p)) ∧ Below U.heap.size U w' := fun p _ U hU => seqTwice_any p q (hbq.below hU hbq.lt)
            have hcall := anyQL_any (sameQ q) hcl hfr
            obtain ⟨b, hb⟩ : ∃ b, b = (seqs.take k).any (sameQ q) := ⟨_, rfl⟩
            rw [← hb] at hcall hi
            have q0 : T2.cell? ⟨gq, 0, none⟩ = some (.string q.id) := hbq.cell 0
            have q1 : T2.cell? ⟨gq, 1, none⟩ = some (.string q.src) := hbq.cell 1
            have q2 : T2.cell? ⟨gq, 2, none⟩ = some (.string q.dst) := hbq.cell 2
            have lgq := hbq.lt
            have HCALL := Lib.hid hcall
            have HI2 := Lib.hid hi
            have HT2 := Lib.hid hT2.symm
            have HGQ := Lib.hid hgq.symm
            have hkI : (k : Int) < (seqs.length : Int) := by omega
            have hkI2 : (k : Int) ≤ (seqs.length : Int) := by omega
            have hc7I : (k : Int) ≤ (cQ : Int) := by omega
            clear hcall hi hT2 hgq hbq bT2 bVT hfr hcl hb hvs hcell hq hinv hB htk
            go_upto_region 8 with fail
            rw [HT2.out, HGQ.out]
            clear HT2 x0 x1 x2
            cases hsd : (q.src.toList == q.dst.toList)
            · go_wp2_with fail
              refine HCALL.out.mono ?_
              rintro e w5 ⟨rfl, hb5⟩
              have HB5 := Lib.hid (HB2.out.trans (hb5.mono HB2.out.size))
              have q05 : w5.cell? ⟨gq, 0, none⟩ = some (.string q.id) := (hb5.cell (p := ⟨gq, 0, none⟩) lgq).trans q0
              have lgq : gq < w5.heap.size := Nat.lt_of_lt_of_le lgq hb5.size
              clear hb5 HCALL q0 q1 q2
              cases b
              · have hi := HI2.out
                rw [if_neg (by rw [show eqS q.src q.dst = false from hsd]; decide)] at hi
                have HN := Lib.hid hi
                clear hi HI2
                go_wp2_with fail
                go_roundw
                case rel => exact ⟨k + 1, by omega, by go_num, HN, HB5.out⟩
                case measure => simp [intOf]; omega
              · have hi := HI2.out
                rw [if_pos (by rw [Bool.or_true])] at hi
                have hr := HR.out
                rw [← hi, if_pos (show (7 : Int) ≠ 0 by decide)] at hr
                injection hr with e1 e2
                subst e1
                subst e2
                clear hi HI2 HR HSB
                go_upto_region 9 with fail
                refine wp_region_HT 3 (fun U => Below w5.heap.size w5 U) (by kernel_rfl) (by decide) ((Below.refl _ _).drew) (fun hHeld => ?_)
                refine ht_take 0 (v := ?va_1) rfl (by kernel_rfl) (fun _ _ _ h => h) (Or.inl ⟨by rfl, ?ha_1⟩) hHeld ?ra_1
                case ha_1 => ((intro U hSw; have qq : U.cell? ⟨gq, 0, none⟩ = some (.string q.id) := (hSw.cell (p := ⟨gq, 0, none⟩) lgq).trans q05; go_simp); (try (with_reducible rfl)))
                try simp only [Act.put, List.setIfInBounds_toArray, List.set_cons_zero, List.set_cons_succ]
                refine ht_take 1 (v := ?va_2) rfl (by kernel_rfl) (fun _ _ _ h => h) (Or.inl ⟨by rfl, ?ha_2⟩) hHeld ?ra_2
                case ha_2 => ((intro U hSw; have qq : U.cell? ⟨gq, 0, none⟩ = some (.string q.id) := (hSw.cell (p := ⟨gq, 0, none⟩) lgq).trans q05; go_simp); (try (with_reducible rfl)))
                try simp only [Act.put, List.setIfInBounds_toArray, List.set_cons_zero, List.set_cons_succ]
                refine ht_take 2 (v := ?va_3) rfl (by kernel_rfl) (fun _ _ _ h => h) (Or.inl ⟨by rfl, ?ha_3⟩) hHeld ?ra_3
                case ha_3 => ((intro U hSw; have qq : U.cell? ⟨gq, 0, none⟩ = some (.string q.id) := (hSw.cell (p := ⟨gq, 0, none⟩) lgq).trans q05; go_simp); (try (with_reducible rfl)))
                try simp only [Act.put, List.setIfInBounds_toArray, List.set_cons_zero, List.set_cons_succ]
                refine ht_done (by kernel_rfl) rfl ?_
                have HF := Lib.hid (HBV.out.trans ((HB5.out.trans (hHeld.mono HB5.out.size)).mono HBV.out.size))
                clear hHeld
                go_wp2_with fail
                go_ret2
                exact ⟨rfl, HF.out⟩
            · have hi := HI2.out
              rw [if_pos (by rw [show eqS q.src q.dst = true from hsd]; rfl)] at hi
              have hr := HR.out
              rw [← hi, if_pos (show (7 : Int) ≠ 0 by decide)] at hr
              injection hr with e1 e2
              subst e1
              subst e2
              clear hi HI2 HR HSB
              go_upto_region 9 with fail
              refine wp_region_HT 3 (fun U => Below T2.heap.size T2 U) (by kernel_rfl) (by decide) ((Below.refl _ _).drew) (fun hHeld => ?_)
              refine ht_take 0 (v := ?vb_1) rfl (by kernel_rfl) (fun _ _ _ h => h) (Or.inl ⟨by rfl, ?hb_1⟩) hHeld ?rb_1
              case hb_1 => ((intro U hSw; have qq : U.cell? ⟨gq, 0, none⟩ = some (.string q.id) := (hSw.cell (p := ⟨gq, 0, none⟩) lgq).trans q0; go_simp); (try (with_reducible rfl)))
              try simp only [Act.put, List.setIfInBounds_toArray, List.set_cons_zero, List.set_cons_succ]
              refine ht_take 1 (v := ?vb_2) rfl (by kernel_rfl) (fun _ _ _ h => h) (Or.inl ⟨by rfl, ?hb_2⟩) hHeld ?rb_2
              case hb_2 => ((intro U hSw; have qq : U.cell? ⟨gq, 0, none⟩ = some (.string q.id) := (hSw.cell (p := ⟨gq, 0, none⟩) lgq).trans q0; go_simp); (try (with_reducible rfl)))
              try simp only [Act.put, List.setIfInBounds_toArray, List.set_cons_zero, List.set_cons_succ]
              refine ht_take 2 (v := ?vb_3) rfl (by kernel_rfl) (fun _ _ _ h => h) (Or.inl ⟨by rfl, ?hb_3⟩) hHeld ?rb_3
              case hb_3 => ((intro U hSw; have qq : U.cell? ⟨gq, 0, none⟩ = some (.string q.id) := (hSw.cell (p := ⟨gq, 0, none⟩) lgq).trans q0; go_simp); (try (with_reducible rfl)))
              try simp only [Act.put, List.setIfInBounds_toArray, List.set_cons_zero, List.set_cons_succ]
              refine ht_done (by kernel_rfl) rfl ?_
              have HF := Lib.hid (HBV.out.trans ((HB2.out.trans (hHeld.mono HB2.out.size)).mono HBV.out.size))
              clear hHeld
              go_wp2_with fail
              go_ret2
              exact ⟨rfl, HF.out⟩
          · have hi := hinv.out
            rw [List.drop_eq_nil_of_le (by omega), seqBad] at hi
            have hr := HR.out
            rw [← hi, if_neg (by decide)] at hr
            have HRM := Lib.hid hr
            have HB5 := Lib.hid hB
            clear hi hr hB hinv HR HSB HATQ HB4
            obtain ⟨_, _, hxv, hxl, hxm, hatX⟩ := rd_at itemC_len HI.out
            injection hxv with e1 e2 e3
            clear e2
            subst e1
            subst e3
            have HATX := Lib.hid hatX
            clear hatX
            have hli := HLI.out
            go_wp2_with fail
            go_loopw [59] (fun kv wr => ∃ k : Nat, k ≤ items.length ∧ kv = .int .i64 k ∧ Hid (rulL d c items seqs (items.drop k) = mm) ∧ Below V.heap.size V wr) (fun kv _ => items.length - (intOf kv).toNat)
            case atStart => exact ⟨0, Nat.zero_le _, rfl, HMM.out.symm, HB5.out⟩
            case round =>
              obtain ⟨k, hk, rfl, hinv, hB⟩ := hrel
              obtain ⟨T, rfl⟩ : ∃ T, T = wr := ⟨_, rfl⟩
              by_cases hlt : k < items.length
              · obtain ⟨bX, vs, rfl, hbX, _, hvs, hcell⟩ := HATX.out k hlt
                have hi := hinv.out
                rw [List.drop_eq_getElem_cons hlt, rulL] at hi
                obtain ⟨x, hx⟩ : ∃ x, x = items[k] := ⟨_, rfl⟩
                rw [← hx] at hvs hi
                have hxm : x ∈ items := by rw [hx]; exact List.getElem_mem hlt
                obtain ⟨v3, v4, v7, v8, v9, rfl, h3, h4, h7, h8, h9⟩ := rd_itemC.1 hvs
                obtain ⟨A3, c3, rfl⟩ := rd_form h3
                obtain ⟨A4, c4, rfl⟩ := rd_form h4
                obtain ⟨A7, c7, rfl⟩ := rd_form h7
                obtain ⟨A8, c8, rfl⟩ := rd_form h8
                obtain ⟨A9, c9, rfl⟩ := rd_form h9
                have e0 := (hB.cell (p := ⟨bX, k * 10, none⟩) hbX).trans (show V.cell? ⟨bX, k * 10, none⟩ = some (.int .i64 x.kind) from hcell 0 (by omega))
                have e1 := (hB.cell (p := ⟨bX, k * 10 + 1, none⟩) hbX).trans (show V.cell? ⟨bX, k * 10 + 1, none⟩ = some (.string x.id) from hcell 1 (by omega))
                have e2 := (hB.cell (p := ⟨bX, k * 10 + 2, none⟩) hbX).trans (show V.cell? ⟨bX, k * 10 + 2, none⟩ = some (.string x.first) from hcell 2 (by omega))
                have e3 := (hB.cell (p := ⟨bX, k * 10 + 3, none⟩) hbX).trans (show V.cell? ⟨bX, k * 10 + 3, none⟩ = some (.slice A3 x.parts.length c3) from hcell 3 (by omega))
                have e4 := (hB.cell (p := ⟨bX, k * 10 + 4, none⟩) hbX).trans (show V.cell? ⟨bX, k * 10 + 4, none⟩ = some (.slice A4 x.flows.length c4) from hcell 4 (by omega))
                have e5 := (hB.cell (p := ⟨bX, k * 10 + 5, none⟩) hbX).trans (show V.cell? ⟨bX, k * 10 + 5, none⟩ = some (.bool x.loop) from hcell 5 (by omega))
                have e6 := (hB.cell (p := ⟨bX, k * 10 + 6, none⟩) hbX).trans (show V.cell? ⟨bX, k * 10 + 6, none⟩ = some (.string x.called) from hcell 6 (by omega))
                have e7 := (hB.cell (p := ⟨bX, k * 10 + 7, none⟩) hbX).trans (show V.cell? ⟨bX, k * 10 + 7, none⟩ = some (.slice A7 x.maps.length c7) from hcell 7 (by omega))
                have e8 := (hB.cell (p := ⟨bX, k * 10 + 8, none⟩) hbX).trans (show V.cell? ⟨bX, k * 10 + 8, none⟩ = some (.slice A8 x.items.length c8) from hcell 8 (by omega))
                have e9 := (hB.cell (p := ⟨bX, k * 10 + 9, none⟩) hbX).trans (show V.cell? ⟨bX, k * 10 + 9, none⟩ = some (.slice A9 x.seqs.length c9) from hcell 9 (by omega))
                obtain ⟨gx, hgx⟩ : ∃ g, g = T.heap.size := ⟨_, rfl⟩
                obtain ⟨T2, hT2⟩ : ∃ T', T' = T.alloc (.cells #[.int .i64 x.kind, .string x.id, .string x.first, .slice A3 x.parts.length c3, .slice A4 x.flows.length c4, .bool x.loop, .string x.called, .slice A7 x.maps.length c7, .slice A8 x.items.length c8, .slice A9 x.seqs.length c9] 30) := ⟨_, rfl⟩
                have bT2 : Below V.heap.size V T2 := by rw [hT2]; exact hB.alloc hB.size _
                have hbx : Blk T2 gx 30 #[.int .i64 x.kind, .string x.id, .string x.first, .slice A3 x.parts.length c3, .slice A4 x.flows.length c4, .bool x.loop, .string x.called, .slice A7 x.maps.length c7, .slice A8 x.items.length c8, .slice A9 x.seqs.length c9] := by rw [hT2, hgx]; exact Blk.new _ _ _
                have hXI : ItemV V x (.slice A3 x.parts.length c3) (.slice A4 x.flows.length c4) (.slice A7 x.maps.length c7) (.slice A8 x.items.length c8) (.slice A9 x.seqs.length c9) := ⟨h3, h4, h7, h8, h9⟩
                have hcall := ruleItem_any (w := T2) (A1 := A1) (c1 := c1) (AP := AP) (cP := cP) (AI := AI) (cI := cI) (AS := AS) (cS := cS) d c items seqs x (Rd.below bT2 _ _ HCS.out) (Rd.below bT2 _ _ HC.out.flows) (Rd.below bT2 _ _ HI.out) (Rd.below bT2 _ _ HS.out) (hXI.below bT2)
                rw [rulI_eq] at hi
                obtain ⟨it, hit⟩ : ∃ n, n = itemF d c items seqs x := ⟨_, rfl⟩
                rw [← hit] at hcall hi
                have x0 : T2.cell? ⟨gx, 0, none⟩ = some (.int .i64 x.kind) := hbx.cell 0
                have x1 : T2.cell? ⟨gx, 1, none⟩ = some (.string x.id) := hbx.cell 1
                have x2 : T2.cell? ⟨gx, 2, none⟩ = some (.string x.first) := hbx.cell 2
                have x3 : T2.cell? ⟨gx, 3, none⟩ = some (.slice A3 x.parts.length c3) := hbx.cell 3
                have x4 : T2.cell? ⟨gx, 4, none⟩ = some (.slice A4 x.flows.length c4) := hbx.cell 4
                have x5 : T2.cell? ⟨gx, 5, none⟩ = some (.bool x.loop) := hbx.cell 5
                have x6 : T2.cell? ⟨gx, 6, none⟩ = some (.string x.called) := hbx.cell 6
                have x7 : T2.cell? ⟨gx, 7, none⟩ = some (.slice A7 x.maps.length c7) := hbx.cell 7
                have x8 : T2.cell? ⟨gx, 8, none⟩ = some (.slice A8 x.items.length c8) := hbx.cell 8
                have x9 : T2.cell? ⟨gx, 9, none⟩ = some (.slice A9 x.seqs.length c9) := hbx.cell 9
                have y0 : T2.cell? ⟨gd, 0, none⟩ = some (.slice A1 d.msgs.length c1) := (HBD.out.below bT2 lgd).cell 0
                have y1 : T2.cell? ⟨gd, 1, none⟩ = some (.slice B1 d.chors.length k1) := (HBD.out.below bT2 lgd).cell 1
                have z0 : T2.cell? ⟨(gd + 1), 0, none⟩ = some (.string c.id) := (HBC.out.below bT2 lgc).cell 0
                have z1 : T2.cell? ⟨(gd + 1), 1, none⟩ = some (.slice AP c.parts.length cP) := (HBC.out.below bT2 lgc).cell 1
                have z2 : T2.cell? ⟨(gd + 1), 2, none⟩ = some (.slice AF c.flows.length cF) := (HBC.out.below bT2 lgc).cell 2
                have z3 : T2.cell? ⟨(gd + 1), 3, none⟩ = some (.slice AI c.items.length cI) := (HBC.out.below bT2 lgc).cell 3
                have z4 : T2.cell? ⟨(gd + 1), 4, none⟩ = some (.slice AS c.seqs.length cS) := (HBC.out.below bT2 lgc).cell 4
                have lgx := hbx.lt
                have HCALL := Lib.hid hcall
                have HI2 := Lib.hid hi
                have HXI := Lib.hid hXI
                have HXM := Lib.hid hxm
                have HBT := Lib.hid bT2
                have HBX := Lib.hid hbx
                have HT2 := Lib.hid hT2.symm
                have HGX := Lib.hid hgx.symm
                have hkI : (k : Int) < (items.length : Int) := by omega
                clear hcall hi hXI hxm bT2 hbx hT2 hgx h3 h4 h7 h8 h9 hvs hcell hx hinv hB hit
                go_upto_region 14 with fail
                rw [HT2.out, HGX.out]
                clear HT2 e0 e1 e2 e3 e4 e5 e6 e7 e8 e9
                go_wp2_with fail
                refine HCALL.out.mono ?_
                rintro e w5 ⟨rfl, hb5⟩
                have HB5 := Lib.hid (HBT.out.trans (hb5.mono HBT.out.size))
                have HBX5 := Lib.hid (HBX.out.below hb5 HBX.out.lt)
                have lgx5 := HBX5.out.lt
                clear hb5 HCALL x0 x1 x2 x3 x4 x5 x6 x7 x8 x9 y0 y1 z0 z1 z2 z3 z4
                have x15 : w5.cell? ⟨gx, 1, none⟩ = some (.string x.id) := HBX5.out.cell 1
                have x05 : w5.cell? ⟨gx, 0, none⟩ = some (.int .i64 x.kind) := HBX5.out.cell 0
                by_cases hi0 : it ≠ 0
                · have hi := HI2.out
                  simp only [if_pos hi0] at hi
                  have hr := HRM.out
                  rw [← hi, if_pos hi0] at hr
                  injection hr with e1 e2
                  have hib : (it != 0) = true := by simpa using hi0
                  clear hi HI2 HRM HMM hi0
                  go_upto_region 16 with fail
                  refine wp_region_HT 4 (fun U => Below w5.heap.size w5 U) (by kernel_rfl) (by decide) ((Below.refl _ _).drew) (fun hHeld => ?_)
                  refine ht_take 0 (v := ?vc_1) rfl (by kernel_rfl) (fun _ _ _ h => h) (Or.inl ⟨by rfl, ?hc_1⟩) hHeld ?rc_1
                  case hc_1 => ((intro U hSw; have qq : U.cell? ⟨gx, 1, none⟩ = some (.string x.id) := (hSw.cell (p := ⟨gx, 1, none⟩) lgx5).trans x15; go_simp); (try (with_reducible rfl)))
                  try simp only [Act.put, List.setIfInBounds_toArray, List.set_cons_zero, List.set_cons_succ]
                  refine ht_take 1 (v := ?vc_2) rfl (by kernel_rfl) (fun _ _ _ h => h) (Or.inl ⟨by rfl, ?hc_2⟩) hHeld ?rc_2
                  case hc_2 => ((intro U hSw; have qq : U.cell? ⟨gx, 1, none⟩ = some (.string x.id) := (hSw.cell (p := ⟨gx, 1, none⟩) lgx5).trans x15; go_simp); (try (with_reducible rfl)))
                  try simp only [Act.put, List.setIfInBounds_toArray, List.set_cons_zero, List.set_cons_succ]
                  refine ht_take 2 (v := ?vc_3) rfl (by kernel_rfl) (fun _ _ _ h => h) (Or.inl ⟨by rfl, ?hc_3⟩) hHeld ?rc_3
                  case hc_3 => ((intro U hSw; have qq : U.cell? ⟨gx, 1, none⟩ = some (.string x.id) := (hSw.cell (p := ⟨gx, 1, none⟩) lgx5).trans x15; go_simp); (try (with_reducible rfl)))
                  try simp only [Act.put, List.setIfInBounds_toArray, List.set_cons_zero, List.set_cons_succ]
                  refine ht_take 3 (v := ?vc_4) rfl (by kernel_rfl) (fun _ _ _ h => h) (Or.inl ⟨by rfl, ?hc_4⟩) hHeld ?rc_4
                  case hc_4 => ((intro U hSw; have qq : U.cell? ⟨gx, 1, none⟩ = some (.string x.id) := (hSw.cell (p := ⟨gx, 1, none⟩) lgx5).trans x15; go_simp); (try (with_reducible rfl)))
                  try simp only [Act.put, List.setIfInBounds_toArray, List.set_cons_zero, List.set_cons_succ]
                  refine ht_done (by kernel_rfl) rfl ?_
                  have HF := Lib.hid (HBV.out.trans ((HB5.out.trans (hHeld.mono HB5.out.size)).mono HBV.out.size))
                  clear hHeld
                  subst e1
                  subst e2
                  go_wp2_with fail
                  go_ret2
                  exact ⟨rfl, HF.out⟩
                · have hi := HI2.out
                  simp only [if_neg hi0] at hi
                  have hib : (it != 0) = false := by simpa using hi0
                  have HI2 := Lib.hid hi
                  clear hi hi0
                  by_cases k7 : x.kind = 7
                  · have hi := HI2.out
                    rw [if_pos k7] at hi
                    have hcall := HIH.out x HXM.out k7 w5 _ _ true (Rd.below HB5.out _ _ HMS.out) (Rd.below HB5.out _ _ HCS.out) (HC.out.below HB5.out) (Rd.below HB5.out _ _ HXI.out.2.2.2.1) (Rd.below HB5.out _ _ HXI.out.2.2.2.2)
                    obtain ⟨s1, s2, hs⟩ : ∃ s1 s2, levelF d c x.items x.seqs true = (s1, s2) := ⟨_, _, rfl⟩
                    rw [hs] at hcall hi
                    dsimp only at hcall hi
                    have hkb : (x.kind == 7) = true := by simp [k7]
                    have HCALL := Lib.hid hcall
                    have HI2 := Lib.hid hi
                    have x85 : w5.cell? ⟨gx, 8, none⟩ = some (.slice A8 x.items.length c8) := HBX5.out.cell 8
                    have x95 : w5.cell? ⟨gx, 9, none⟩ = some (.slice A9 x.seqs.length c9) := HBX5.out.cell 9
                    have y05 : w5.cell? ⟨gd, 0, none⟩ = some (.slice A1 d.msgs.length c1) := (HBD.out.below HB5.out lgd).cell 0
                    have y15 : w5.cell? ⟨gd, 1, none⟩ = some (.slice B1 d.chors.length k1) := (HBD.out.below HB5.out lgd).cell 1
                    have z05 : w5.cell? ⟨gd + 1, 0, none⟩ = some (.string c.id) := (HBC.out.below HB5.out lgc).cell 0
                    have z15 : w5.cell? ⟨gd + 1, 1, none⟩ = some (.slice AP c.parts.length cP) := (HBC.out.below HB5.out lgc).cell 1
                    have z25 : w5.cell? ⟨gd + 1, 2, none⟩ = some (.slice AF c.flows.length cF) := (HBC.out.below HB5.out lgc).cell 2
                    have z35 : w5.cell? ⟨gd + 1, 3, none⟩ = some (.slice AI c.items.length cI) := (HBC.out.below HB5.out lgc).cell 3
                    have z45 : w5.cell? ⟨gd + 1, 4, none⟩ = some (.slice AS c.seqs.length cS) := (HBC.out.below HB5.out lgc).cell 4
                    clear hcall hi hs k7
                    go_wp2_with fail
                    refine HCALL.out.mono ?_
                    rintro e w6 ⟨rfl, hb6⟩
                    have HB6 := Lib.hid (HB5.out.trans (hb6.mono HB5.out.size))
                    clear hb6 HCALL x05 x15 x85 x95 y05 y15 z05 z15 z25 z35 z45
                    by_cases hs0 : s1 ≠ 0
                    · have hi := HI2.out
                      rw [if_pos hs0] at hi
                      have hr := HRM.out
                      rw [← hi, if_pos hs0] at hr
                      injection hr with e1 e2
                      have hsb : (s1 != 0) = true := by simpa using hs0
                      have HF := Lib.hid (HBV.out.trans (HB6.out.mono HBV.out.size))
                      subst e1
                      subst e2
                      clear hi HI2 HRM HMM hs0
                      go_wp2_with fail
                      go_ret2
                      exact ⟨rfl, HF.out⟩
                    · have hi := HI2.out
                      rw [if_neg hs0] at hi
                      have hsb : (s1 != 0) = false := by simpa using hs0
                      have HN := Lib.hid hi
                      clear hi HI2 hs0
                      go_wp2_with fail
                      go_roundw
                      case rel => exact ⟨k + 1, by omega, by go_num, HN, HB6.out⟩
                      case measure => simp [intOf]; omega
                  · have hi := HI2.out
                    rw [if_neg k7] at hi
                    have hkb : (x.kind == 7) = false := by simp [k7]
                    have HN : Hid (rulL d c items seqs (items.drop (k + 1)) = mm) := by
                      rw [if_neg (by decide)] at hi
                      exact Lib.hid hi
                    clear hi HI2
                    generalize x.kind = kd at *
                    clear k7
                    go_wp2_with fail
                    go_roundw
                    case rel => exact ⟨k + 1, by omega, by go_num, HN, HB5.out⟩
                    case measure => simp [intOf]; omega
              · have hi := hinv.out
                rw [List.drop_eq_nil_of_le (by omega), rulL] at hi
                have hr := HRM.out
                rw [← hi, if_neg (by decide)] at hr
                have hcall := reached_any (Rd.below hB _ _ HI.out) (Rd.below hB _ _ HS.out) HLI.out HLS.out
                have HCALL := Lib.hid hcall
                have HRR := Lib.hid hr
                have HB := Lib.hid hB
                clear hi hr hcall hB hinv HRM HMM
                go_wp2_with fail
                refine HCALL.out.mono ?_
                rintro e w6 ⟨sn, hsl, hsn, A0, c0, rfl, _, hb6⟩
                have hpl := places_all sn 0
                have hlen := placesFrom_len (fun b : Bool => b) sn 0
                generalize (placesFrom (fun b : Bool => b) sn 0).length = pn at *
                have HF := Lib.hid (HBV.out.trans ((HB.out.trans (hb6.mono HB.out.size)).mono HBV.out.size))
                by_cases hall : allReach items seqs
                · have hr := HRR.out
                  unfold postF at hr
                  rw [if_pos hall] at hr
                  injection hr with e1 e2
                  have hpn : pn = items.length := by rw [← hsl]; exact hpl.2 (fun i hi => (hsn i).2 (hall i (by omega)))
                  have hnb : ((pn : Int) != (items.length : Int)) = false := by simp; omega
                  subst e1
                  subst e2
                  clear HRR HCALL hb6 hpl hlen hall hpn hsn hsl
                  go_wp2_with fail
                  go_ret2
                  exact ⟨rfl, HF.out⟩
                · have hr := HRR.out
                  unfold postF at hr
                  rw [if_neg hall] at hr
                  injection hr with e1 e2
                  have hpn : pn ≠ items.length := fun e => hall (fun i hi => (hsn i).1 (hpl.1 (by omega) i (by omega)))
                  have hnb : ((pn : Int) != (items.length : Int)) = true := by simp; omega
                  subst e1
                  subst e2
                  clear HRR HCALL hb6 hpl hlen hall hpn hsn hsl
                  go_wp2_with fail
                  go_ret2
                  exact ⟨rfl, HF.out⟩
      · have hr := H2.out rfl
        injection hr with e1 e2
        subst e1
        subst e2
        have HF := Lib.hid (HBV.out.trans (HB4.out.mono HBV.out.size))
        clear H2 H3
        go_wp2_with fail
        go_ret2
        exact ⟨rfl, HF.out⟩
end Go.Proofs.Ytljmghaplnkohaa
namespace Go.Proofs.Ytljmghaplnkohaa
open Go.RowKit
attribute [local go_sem ↓] Go.wp_at_zero Go.wp_at_succ

noncomputable def chorF (d : DocD) (c : ChorD) : Int × ByteArray := levelF d c c.items c.seqs false
noncomputable def chorsF (d : DocD) : List ChorD → Int × ByteArray
  | [] => (0, ⟨#[]⟩)
  | c :: l => if (chorF d c).1 ≠ 0 then chorF d c else chorsF d l
theorem ruleChor_any {w : World} {d : DocD} {c : ChorD} {A1 B1 : Option Addr} {c1 k1 : Nat} {AP : Option Addr} {cP : Nat} {AF : Option Addr} {cF : Nat} {AI : Option Addr} {cI : Nat} {AS : Option Addr} {cS : Nat} (hlv : LvOk d c A1 B1 c1 k1 AP cP AF cF AI cI AS cS c.items c.seqs)
    (hm : Rd w (msgsD d.msgs) (.slice A1 d.msgs.length c1)) (hcs : Rd w (chorsD d.chors) (.slice B1 d.chors.length k1)) (hc : Comp w c.parts c.flows c.items c.seqs AP cP AF cF AI cI AS cS) :
    Calls Try.prog 30 #[.agg #[.slice A1 d.msgs.length c1, .slice B1 d.chors.length k1], .agg #[.string c.id, .slice AP c.parts.length cP, .slice AF c.flows.length cF, .slice AI c.items.length cI, .slice AS c.seqs.length cS]] w fun e w' => e = .returned (.tuple #[.int .i64 (chorF d c).1, .string (chorF d c).2]) ∧ Below w.heap.size w w' := by
  obtain ⟨V, hV⟩ : ∃ V, V = (w.alloc (.cells #[.slice A1 d.msgs.length c1, .slice B1 d.chors.length k1] 42)).alloc (.cells #[.string c.id, .slice AP c.parts.length cP, .slice AF c.flows.length cF, .slice AI c.items.length cI, .slice AS c.seqs.length cS] 54) := ⟨_, rfl⟩
  obtain ⟨gd, hgd⟩ : ∃ g, g = w.heap.size := ⟨_, rfl⟩
  have zz1 : (w.alloc (.cells #[.slice A1 d.msgs.length c1, .slice B1 d.chors.length k1] 42)).heap.size = w.heap.size + 1 := by simp
  have bV : Below w.heap.size w V := by rw [hV]; exact ((Below.refl _ _).alloc (Nat.le_refl _) _).alloc (by simp) _
  have hbd : Blk V gd 42 #[.slice A1 d.msgs.length c1, .slice B1 d.chors.length k1] := by rw [hV, hgd]; exact (Blk.new w _ _).alloc _
  have hbc : Blk V (gd + 1) 54 #[.string c.id, .slice AP c.parts.length cP, .slice AF c.flows.length cF, .slice AI c.items.length cI, .slice AS c.seqs.length cS] := by
    have := Blk.new (w.alloc (.cells #[.slice A1 d.msgs.length c1, .slice B1 d.chors.length k1] 42)) 54 #[.string c.id, .slice AP c.parts.length cP, .slice AF c.flows.length cF, .slice AI c.items.length cI, .slice AS c.seqs.length cS]
    rw [zz1] at this
    rw [hV, hgd]; exact this
  have hcall := hlv V _ _ false (Rd.below bV _ _ hm) (Rd.below bV _ _ hcs) (hc.below bV) (Rd.below bV _ _ hc.items) (Rd.below bV _ _ hc.seqs)
  unfold chorF
  obtain ⟨r1, r2, hr⟩ : ∃ r1 r2, levelF d c c.items c.seqs false = (r1, r2) := ⟨_, _, rfl⟩
  rw [hr] at hcall ⊢
  dsimp only at hcall ⊢
  have y0 : V.cell? ⟨gd, 0, none⟩ = some (.slice A1 d.msgs.length c1) := hbd.cell 0
  have y1 : V.cell? ⟨gd, 1, none⟩ = some (.slice B1 d.chors.length k1) := hbd.cell 1
  have z0 : V.cell? ⟨(gd + 1), 0, none⟩ = some (.string c.id) := hbc.cell 0
  have z1 : V.cell? ⟨(gd + 1), 1, none⟩ = some (.slice AP c.parts.length cP) := hbc.cell 1
  have z2 : V.cell? ⟨(gd + 1), 2, none⟩ = some (.slice AF c.flows.length cF) := hbc.cell 2
  have z3 : V.cell? ⟨(gd + 1), 3, none⟩ = some (.slice AI c.items.length cI) := hbc.cell 3
  have z4 : V.cell? ⟨(gd + 1), 4, none⟩ = some (.slice AS c.seqs.length cS) := hbc.cell 4
  have lgd := hbd.lt
  have lgc := hbc.lt
  have HCALL := Lib.hid hcall
  have HBV := Lib.hid bV
  have HV := Lib.hid hV.symm
  have HG := Lib.hid hgd.symm
  clear hcall hr hm hcs hc hbd hbc bV hV hgd zz1 hlv
  go_enter Try.func30, Try.ntmps30
  go_upto_region 1 with fail
  rw [HV.out, HG.out]
  clear HV
  go_wp2_with fail
  refine HCALL.out.mono ?_
  rintro e w1 ⟨rfl, hb1⟩
  have HF := Lib.hid (HBV.out.trans (hb1.mono HBV.out.size))
  clear hb1 HCALL
  go_wp2_with fail
  go_ret2
  exact ⟨rfl, HF.out⟩
theorem ret_chk {W : World} {x y z : Value} {tmps : Array Value} (hx : tmps.getD 2 undef = x) (hy : tmps.getD 3 undef = y) (hz : tmps.getD 4 undef = z) : (results Try.f29 tmps).run Try.prog W = .ok (.tuple #[x, y, z]) W := by
  simp [results, Try.results29, go_sem, hx, hy, hz, -Array.getD_eq_getD_getElem?]
noncomputable def ckF (d : DocD) : Int × ByteArray × Int :=
  if checkF d ≠ 0 then (0, ⟨#[]⟩, checkF d) else if (chorsF d d.chors).1 ≠ 0 then ((chorsF d d.chors).1, (chorsF d d.chors).2, 9) else (0, ⟨#[]⟩, 0)
set_option maxRecDepth 100000 in
set_option maxHeartbeats 8000000 in
theorem ruleCheck_any {w : World} {d : DocD} {A1 B1 : Option Addr} {c1 k1 : Nat} (hlv : ∀ c ∈ d.chors, ∀ AP cP AF cF AI cI AS cS, LvOk d c A1 B1 c1 k1 AP cP AF cF AI cI AS cS c.items c.seqs)
    (hm : Rd w (msgsD d.msgs) (.slice A1 d.msgs.length c1)) (hcs : Rd w (chorsD d.chors) (.slice B1 d.chors.length k1)) (hfit : IdsFit [] (idsD d)) :
    Calls Try.prog 29 #[.agg #[.slice A1 d.msgs.length c1, .slice B1 d.chors.length k1]] w fun e w' => e = .returned (.tuple #[.int .i64 (ckF d).1, .string (ckF d).2.1, .int .i64 (ckF d).2.2]) ∧ Below w.heap.size w w' := by
  obtain ⟨V, hV⟩ : ∃ V, V = w.alloc (.cells #[.slice A1 d.msgs.length c1, .slice B1 d.chors.length k1] 42) := ⟨_, rfl⟩
  obtain ⟨gd, hgd⟩ : ∃ g, g = w.heap.size := ⟨_, rfl⟩
  have bV : Below w.heap.size w V := by rw [hV]; exact (Below.refl _ _).alloc (Nat.le_refl _) _
  have hbd : Blk V gd 42 #[.slice A1 d.msgs.length c1, .slice B1 d.chors.length k1] := by rw [hV, hgd]; exact Blk.new _ _ _
  have hchk := check_any (w := V) d (Rd.below bV _ _ hm) (Rd.below bV _ _ hcs) hfit
  obtain ⟨r1, r2, r3, hr⟩ : ∃ r1 r2 r3, ckF d = (r1, r2, r3) := ⟨_, _, _, rfl⟩
  rw [hr]
  dsimp only
  unfold ckF at hr
  generalize checkF d = ck at *
  obtain ⟨m1, m2, hmm⟩ : ∃ m1 m2, chorsF d d.chors = (m1, m2) := ⟨_, _, rfl⟩
  rw [hmm] at hr
  dsimp only at hr
  obtain ⟨_, _, hcv, hcl, hcm, hatC⟩ := rd_at chorC_len (Rd.below bV _ _ hcs)
  injection hcv with e1 e2 e3
  clear e2
  subst e1
  subst e3
  have hcmx : d.chors.length ≤ maxLen := by omega
  unfold maxLen at hcmx
  have y0 : V.cell? ⟨gd, 0, none⟩ = some (.slice A1 d.msgs.length c1) := hbd.cell 0
  have y1 : V.cell? ⟨gd, 1, none⟩ = some (.slice B1 d.chors.length k1) := hbd.cell 1
  have lgd := hbd.lt
  have HCHK := Lib.hid hchk
  have HR := Lib.hid hr
  have HMM := Lib.hid hmm
  have HATC := Lib.hid hatC
  have HLV := Lib.hid hlv
  have HMS := Lib.hid (Rd.below bV _ _ hm)
  have HCS := Lib.hid (Rd.below bV _ _ hcs)
  have HBD := Lib.hid hbd
  have HBV := Lib.hid bV
  have HV := Lib.hid hV.symm
  have HG := Lib.hid hgd.symm
  clear hchk hr hmm hatC hm hcs hbd bV hV hgd hlv hfit hcl hcm
  go_enter Try.func29, Try.ntmps29
  go_upto_region 1 with fail
  rw [HV.out, HG.out]
  clear HV
  go_wp2_with fail
  refine HCHK.out.mono ?_
  rintro e w1 ⟨rfl, hb1⟩
  have HB1 := Lib.hid hb1
  have y11 : w1.cell? ⟨gd, 1, none⟩ = some (.slice B1 d.chors.length k1) := (hb1.cell (p := ⟨gd, 1, none⟩) lgd).trans y1
  clear hb1 HCHK
  by_cases hc0 : ck ≠ 0
  · have hr := HR.out
    rw [if_pos hc0] at hr
    injection hr with e1 e2
    injection e2 with e2 e3
    have hcb : (ck != 0) = true := by simpa using hc0
    have HF := Lib.hid (HBV.out.trans (HB1.out.mono HBV.out.size))
    clear HR hc0 HMM
    subst e1
    subst e2
    subst e3
    go_wp2_with fail
    exact bodyPost_ret (ret_chk rfl rfl rfl) rfl ⟨rfl, HF.out⟩
  · have hr := HR.out
    rw [if_neg hc0] at hr
    have hcb : (ck != 0) = false := by simpa using hc0
    clear HR
    have HR := Lib.hid hr
    clear hr hc0
    go_wp2_with fail
    go_loopw [18] (fun kv wr => ∃ k : Nat, k ≤ d.chors.length ∧ kv = .int .i64 k ∧ Hid (chorsF d (d.chors.drop k) = (m1, m2)) ∧ Below V.heap.size V wr) (fun kv _ => d.chors.length - (intOf kv).toNat)
    case atStart => exact ⟨0, Nat.zero_le _, rfl, HMM.out, HB1.out⟩
    case round =>
      obtain ⟨k, hk, rfl, hinv, hB⟩ := hrel
      obtain ⟨T, rfl⟩ : ∃ T, T = wr := ⟨_, rfl⟩
      by_cases hlt : k < d.chors.length
      · obtain ⟨bC, vs, rfl, hbC, _, hvs, hcell⟩ := HATC.out k hlt
        have hi := hinv.out
        rw [List.drop_eq_getElem_cons hlt, chorsF] at hi
        obtain ⟨c, hcx⟩ : ∃ c, c = d.chors[k] := ⟨_, rfl⟩
        rw [← hcx] at hvs hi
        have hcm : c ∈ d.chors := by rw [hcx]; exact List.getElem_mem hlt
        obtain ⟨vP, vF, vI, vS, rfl, hP, hF, hI, hS⟩ := rd_chorC.1 hvs
        obtain ⟨AP, cP, rfl⟩ := rd_form hP
        obtain ⟨AF, cF, rfl⟩ := rd_form hF
        obtain ⟨AI, cI, rfl⟩ := rd_form hI
        obtain ⟨AS, cS, rfl⟩ := rd_form hS
        have e0 := (hB.cell (p := ⟨bC, k * 5, none⟩) hbC).trans (show V.cell? ⟨bC, k * 5, none⟩ = some (.string c.id) from hcell 0 (by omega))
        have e1 := (hB.cell (p := ⟨bC, k * 5 + 1, none⟩) hbC).trans (show V.cell? ⟨bC, k * 5 + 1, none⟩ = some (.slice AP c.parts.length cP) from hcell 1 (by omega))
        have e2 := (hB.cell (p := ⟨bC, k * 5 + 2, none⟩) hbC).trans (show V.cell? ⟨bC, k * 5 + 2, none⟩ = some (.slice AF c.flows.length cF) from hcell 2 (by omega))
        have e3 := (hB.cell (p := ⟨bC, k * 5 + 3, none⟩) hbC).trans (show V.cell? ⟨bC, k * 5 + 3, none⟩ = some (.slice AI c.items.length cI) from hcell 3 (by omega))
        have e4 := (hB.cell (p := ⟨bC, k * 5 + 4, none⟩) hbC).trans (show V.cell? ⟨bC, k * 5 + 4, none⟩ = some (.slice AS c.seqs.length cS) from hcell 4 (by omega))
        obtain ⟨T2, hT2⟩ : ∃ T', T' = T.alloc (.cells #[.string c.id, .slice AP c.parts.length cP, .slice AF c.flows.length cF, .slice AI c.items.length cI, .slice AS c.seqs.length cS] 54) := ⟨_, rfl⟩
        obtain ⟨gc, hgc⟩ : ∃ g, g = T.heap.size := ⟨_, rfl⟩
        have bT2 : Below V.heap.size V T2 := by rw [hT2]; exact hB.alloc hB.size _
        have hbc : Blk T2 gc 54 #[.string c.id, .slice AP c.parts.length cP, .slice AF c.flows.length cF, .slice AI c.items.length cI, .slice AS c.seqs.length cS] := by rw [hT2, hgc]; exact Blk.new _ _ _
        have hcall := ruleChor_any (w := T2) (HLV.out c hcm AP cP AF cF AI cI AS cS) (Rd.below bT2 _ _ HMS.out) (Rd.below bT2 _ _ HCS.out) ⟨Rd.below bT2 _ _ hP, Rd.below bT2 _ _ hF, Rd.below bT2 _ _ hI, Rd.below bT2 _ _ hS⟩
        obtain ⟨s1, s2, hs⟩ : ∃ s1 s2, chorF d c = (s1, s2) := ⟨_, _, rfl⟩
        rw [hs] at hcall hi
        dsimp only at hcall hi
        have z0 : T2.cell? ⟨gc, 0, none⟩ = some (.string c.id) := hbc.cell 0
        have z1 : T2.cell? ⟨gc, 1, none⟩ = some (.slice AP c.parts.length cP) := hbc.cell 1
        have z2 : T2.cell? ⟨gc, 2, none⟩ = some (.slice AF c.flows.length cF) := hbc.cell 2
        have z3 : T2.cell? ⟨gc, 3, none⟩ = some (.slice AI c.items.length cI) := hbc.cell 3
        have z4 : T2.cell? ⟨gc, 4, none⟩ = some (.slice AS c.seqs.length cS) := hbc.cell 4
        have u0 : T2.cell? ⟨gd, 0, none⟩ = some (.slice A1 d.msgs.length c1) := (HBD.out.below bT2 lgd).cell 0
        have u1 : T2.cell? ⟨gd, 1, none⟩ = some (.slice (some ⟨bC, 0, none⟩) d.chors.length k1) := (HBD.out.below bT2 lgd).cell 1
        have HCALL := Lib.hid hcall
        have HI := Lib.hid hi
        have HBT := Lib.hid bT2
        have HT2 := Lib.hid hT2.symm
        have HGC := Lib.hid hgc.symm
        have hkI : (k : Int) < (d.chors.length : Int) := by omega
        clear hcall hi bT2 hbc hT2 hgc hs hP hF hI hS hvs hcell hcx hcm hinv hB
        go_upto_region 7 with fail
        rw [HT2.out, HGC.out]
        clear HT2 e0 e1 e2 e3 e4
        go_wp2_with fail
        refine HCALL.out.mono ?_
        rintro e w5 ⟨rfl, hb5⟩
        have HB5 := Lib.hid (HBT.out.trans (hb5.mono HBT.out.size))
        clear hb5 HCALL z0 z1 z2 z3 z4 u0 u1
        by_cases hs0 : s1 ≠ 0
        · have hi := HI.out
          rw [if_pos hs0] at hi
          injection hi with i1 i2
          subst i1
          subst i2
          have hr := HR.out
          rw [if_pos hs0] at hr
          injection hr with e1 e2
          injection e2 with e2 e3
          have hsb : (s1 != 0) = true := by simpa using hs0
          have HF := Lib.hid (HBV.out.trans (HB5.out.mono HBV.out.size))
          clear HR hs0 HMM HI
          subst e1
          subst e2
          subst e3
          go_wp2_with fail
          exact bodyPost_ret (ret_chk rfl rfl rfl) rfl ⟨rfl, HF.out⟩
        · have hi := HI.out
          rw [if_neg hs0] at hi
          have hsb : (s1 != 0) = false := by simpa using hs0
          have HN := Lib.hid hi
          clear hi HI hs0
          go_wp2_with fail
          go_roundw
          case rel => exact ⟨k + 1, by omega, by go_num, HN, HB5.out⟩
          case measure => simp [intOf]; omega
      · have hi := hinv.out
        rw [List.drop_eq_nil_of_le (by omega), chorsF] at hi
        injection hi with i1 i2
        have hr := HR.out
        rw [← i1, if_neg (by decide)] at hr
        injection hr with e1 e2
        injection e2 with e2 e3
        have HF := Lib.hid (HBV.out.trans (hB.mono HBV.out.size))
        clear HR HMM hinv hB i1 i2
        subst e1
        subst e2
        subst e3
        go_wp2_with fail
        exact bodyPost_ret (ret_chk rfl rfl rfl) rfl ⟨rfl, HF.out⟩
end Go.Proofs.Ytljmghaplnkohaa
