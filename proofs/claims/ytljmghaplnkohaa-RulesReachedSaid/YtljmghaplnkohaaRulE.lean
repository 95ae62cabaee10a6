/- The walk of the law RulesReached. -/
import Derived.Test.YtljmghaplnkohaaRulC
import Derived.Test.YtljmghaplnkohaaRulD
import Derived.Test.YtljmghaplnkohaaRulP
import Derived.Test.YtljmghaplnkohaaArgs
namespace Go.Proofs.Ytljmghaplnkohaa
open Go.RowKit
attribute [local go_sem ↓] Go.wp_at_zero Go.wp_at_succ

theorem Try.infoItemR : (Try.prog.info? 30).map (fun i => (i.zero, i.size, i.bytes)) = some (some (.agg #[.int .i64 0, .string ⟨#[]⟩, .string ⟨#[]⟩, .slice none 0 0, .slice none 0 0, .bool false, .string ⟨#[]⟩, .slice none 0 0, .slice none 0 0, .slice none 0 0]), 10, 184) := by kernel_rfl
theorem Try.infoSeqR : (Try.prog.info? 33).map (fun i => (i.zero, i.size, i.bytes)) = some (some (.agg #[.string ⟨#[]⟩, .string ⟨#[]⟩, .string ⟨#[]⟩]), 3, 48) := by kernel_rfl
theorem conv_at1 {W : World} {g : Nat} {a : Int} (h : W.cell? ⟨g, 0, none⟩ = some (.int .u8 a)) : (convert 26 9 (.slice (some ⟨g, 0, none⟩) 1 1)).run Try.prog W = .ok (.string (strOfNums [a])) W :=
  run_convert_bytes_arg _ 26 5 Try.underlying26 Try.underlying5 g 0 1 1 [a] rfl (fun i hi => by
    have : i = 0 := by simpa using hi
    subst this
    simpa using h) 9 Try.underlying9
/-- An item's cells, all slices nil. -/
def itemV (k : Int) (i : Nat) : List Value := [.int .i64 (rKind k), .string (lt i), .string ⟨#[]⟩, .slice none 0 0, .slice none 0 0, .bool false, .string ⟨#[]⟩, .slice none 0 0, .slice none 0 0, .slice none 0 0]
def rowI (ks : List Int) (n : Nat) : List Value := (List.range n).flatMap fun i => itemV (ks.getD i 0) i
theorem rowI_succ (ks : List Int) (n : Nat) : rowI ks (n + 1) = rowI ks n ++ itemV (ks.getD n 0) n := by
  unfold rowI
  rw [List.range_succ, List.flatMap_append]
  simp
theorem rd_nilR {w : World} {e sz : Nat} : Rd w (.sl e sz 0 []) (.slice none 0 0) := rd_sl.2 ⟨none, 0, [], rfl, World.ownsRow_nil _ _ _ _, rdl_nil.2 rfl⟩
theorem itemV_rd (w : World) (k : Int) (i : Nat) : RdL w (itemC (rItem (rKind k) i)) (itemV k i) :=
  rd_itemC.2 ⟨_, _, _, _, _, rfl, rd_nilR, rd_nilR, rd_nilR, rd_nilR, rd_nilR⟩
theorem rowI_rd (w : World) (ks : List Int) : ∀ n, RdL w ((rItems ks n).flatMap itemC) (rowI ks n)
  | 0 => rdl_nil.2 rfl
  | n + 1 => by
    rw [rItems_succ, List.flatMap_append, rowI_succ]
    refine (rowI_rd w ks n).append ?_
    rw [List.flatMap_cons, List.flatMap_nil, List.append_nil]
    exact itemV_rd w _ n
def seqV (e : Nat × Nat) : List Value := [.string ⟨#[]⟩, .string (lt e.1), .string (lt e.2)]
def rowS (es : List (Int × Int)) (m : Nat) : List Value := (List.range m).flatMap fun i => seqV (rEdge es i)
theorem rowS_succ (es : List (Int × Int)) (m : Nat) : rowS es (m + 1) = rowS es m ++ seqV (rEdge es m) := by
  unfold rowS
  rw [List.range_succ, List.flatMap_append]
  simp
theorem rowS_rd (w : World) (es : List (Int × Int)) : ∀ m, RdL w ((rSeqs es m).flatMap seqC) (rowS es m)
  | 0 => rdl_nil.2 rfl
  | m + 1 => by
    rw [rSeqs_succ, List.flatMap_append, rowS_succ]
    refine (rowS_rd w es m).append ?_
    rw [List.flatMap_cons, List.flatMap_nil, List.append_nil]
    exact rdl_cons.2 ⟨_, _, rfl, rd_str.2 rfl, rdl_cons.2 ⟨_, _, rfl, rd_str.2 rfl, rdl_cons.2 ⟨_, _, rfl, rd_str.2 rfl, rdl_nil.2 rfl⟩⟩⟩
/-- So many items, and so many of what follows what, lie in blocks of the call's own. -/
structure RowsW (w : World) (ks : List Int) (es : List (Int × Int)) (v5 v6 : Value) (n m : Nat) (W : World) : Prop where
  bel : Below w.heap.size w W
  i : W.ownsRow w.heap.size 30 10 v5 n (rowI ks n)
  s : W.ownsRow w.heap.size 33 3 v6 m (rowS es m)
theorem RowsW.items {w W : World} {ks : List Int} {es : List (Int × Int)} {v5 v6 : Value} {n m : Nat} (h : RowsW w ks es v5 v6 n m W) : Rd W (itemsD (rItems ks n)) v5 := by
  obtain ⟨A, c, rfl, _, _⟩ := own_slice h.i
  have := rItems_len ks n
  refine rd_sl.2 ⟨A, c, rowI ks n, by rw [this], by rw [this]; exact own_mono h.i (by omega), rowI_rd _ _ _⟩
theorem RowsW.seqs {w W : World} {ks : List Int} {es : List (Int × Int)} {v5 v6 : Value} {n m : Nat} (h : RowsW w ks es v5 v6 n m W) : Rd W (seqsD (rSeqs es m)) v6 := by
  obtain ⟨A, c, rfl, _, _⟩ := own_slice h.s
  have := rSeqs_len es m
  refine rd_sl.2 ⟨A, c, rowS es m, by rw [this], by rw [this]; exact own_mono h.s (by omega), rowS_rd _ _ _⟩
theorem RowsW.itemAt {w W : World} {ks : List Int} {es : List (Int × Int)} {v6 : Value} {A : Option Addr} {c n m : Nat} (h : RowsW w ks es (.slice A n c) v6 n m W) (k : Nat) (hk : k < n) :
    ∃ b, A = some ⟨b, 0, none⟩ ∧ b < W.heap.size ∧ W.cell? ⟨b, k * 10, none⟩ = some (.int .i64 (rKind (ks.getD k 0))) ∧ W.cell? ⟨b, k * 10 + 1, none⟩ = some (.string (lt k)) := by
  obtain ⟨A', c', hv, _, _, hat⟩ := rd_at itemC_len h.items
  injection hv with e1 _ _
  subst e1
  obtain ⟨b, vs, rfl, hb, _, hvs, hcell⟩ := hat k (by rw [rItems_len]; exact hk)
  rw [rItems_at] at hvs
  obtain ⟨_, _, _, _, _, rfl, _⟩ := rd_itemC.1 hvs
  exact ⟨b, rfl, hb, hcell 0 (by omega), hcell 1 (by omega)⟩
theorem RowsW.seqAt {w W : World} {ks : List Int} {es : List (Int × Int)} {v5 : Value} {A : Option Addr} {c n m : Nat} (h : RowsW w ks es v5 (.slice A m c) n m W) (k : Nat) (hk : k < m) :
    ∃ b, A = some ⟨b, 0, none⟩ ∧ b < W.heap.size ∧ W.cell? ⟨b, k * 3 + 1, none⟩ = some (.string (lt (rEdge es k).1)) ∧ W.cell? ⟨b, k * 3 + 2, none⟩ = some (.string (lt (rEdge es k).2)) := by
  obtain ⟨A', c', hv, _, _, hat⟩ := rd_at seqC_len h.seqs
  injection hv with e1 _ _
  subst e1
  obtain ⟨b, vs, rfl, hb, _, hvs, hcell⟩ := hat k (by rw [rSeqs_len]; exact hk)
  rw [rSeqs_at] at hvs
  obtain rfl := rd_seqC hvs
  exact ⟨b, rfl, hb, hcell 1 (by omega), hcell 2 (by omega)⟩
theorem lt_size (a : Nat) : (lt a).size = 1 := rfl
theorem lt_at0 : ∀ a : Fin 16, (((lt a.val)[0]'(Nat.lt_of_lt_of_eq Nat.zero_lt_one (lt_size a.val).symm)).toNat : Int) = 97 + (a.val : Int) := by decide +kernel
theorem lt_index (U : World) (a : Nat) (ha : a < 16) : (Instr.index 9 (.string (lt a)) (.int .i64 0)).run Try.prog U = .ok (.int .u8 (97 + (a : Int))) U := by
  rw [run_index_string U 9 (lt a) .i64 0 Try.underlying9, dif_pos ⟨Int.le_refl _, by rw [lt_size]; omega⟩]
  show Result.ok (Value.int IntKind.u8 (((lt a)[0]'(by rw [lt_size]; omega)).toNat : Int)) U = _
  rw [lt_at0 ⟨a, ha⟩]
theorem placesFrom_app {α : Type} (p : α → Bool) : ∀ (a b : List α) (k : Nat), placesFrom p (a ++ b) k = placesFrom p a k ++ placesFrom p b (k + a.length)
  | [], b, k => rfl
  | x :: a, b, k => by
    rw [List.cons_append, placesFrom, placesFrom, placesFrom_app p a b (k + 1), List.length_cons, show k + 1 + a.length = k + (a.length + 1) by omega]
    split <;> simp
theorem places_get (l : List Bool) (i : Nat) (hi : i < l.length) (h : l[i] = true) : (placesFrom (fun b : Bool => b) l 0)[(placesFrom (fun b : Bool => b) (l.take i) 0).length]? = some (i : Int) := by
  have e : l = l.take i ++ l[i] :: l.drop (i + 1) := by rw [← List.drop_eq_getElem_cons hi, List.take_append_drop]
  have hl : (l.take i).length = i := by rw [List.length_take]; omega
  have e2 : placesFrom (fun b : Bool => b) l 0 = placesFrom (fun b : Bool => b) (l.take i) 0 ++ ((i : Int) :: placesFrom (fun b : Bool => b) (l.drop (i + 1)) (i + 1)) := by
    conv => lhs; rw [e]
    rw [placesFrom_app, hl, h, placesFrom]
    simp
  rw [e2, List.getElem?_append_right (Nat.le_refl _), Nat.sub_self]
  rfl
theorem RW.setB {w W : World} {d : Nat} {sn : List Bool} (h : RW w d sn W) (k : Nat) (b : Bool) : RW w d (sn.set k b) (W.setCell ⟨d, k, none⟩ (.bool b)) :=
  ⟨h.bel.setCell (p := ⟨d, k, none⟩) h.ge _, h.ge, by
    have := h.db.set_ k (.bool b)
    simpa [List.map_set] using this⟩

set_option maxRecDepth 100000 in
set_option maxHeartbeats 8000000 in
theorem rulesReached_walk (A0 : Option Addr) (c0 : Nat) (x0 : List Int) (A1 : Option Addr) (c1 : Nat) (x1 : List (Int × Int)) (w : World) (m0 : x0.length ≤ maxLen) (h0 : IntsAt w A0 x0) (m1 : x1.length ≤ maxLen) (h1 : PairsAt w A1 x1) :
    Calls Try.prog 3 #[.slice A0 x0.length c0, .slice A1 x1.length c1] w fun e w' => e = .returned (.bool true) ∧ Below w.heap.size w w' := by
  obtain ⟨i0, hi0, hz0, hz1, hz2⟩ := info_parts Try.infoItemR
  obtain ⟨j0, hj0, hy0, hy1, hy2⟩ := info_parts Try.infoSeqR
  unfold maxLen at m0 m1
  obtain ⟨n, hn⟩ : ∃ n, n = min x0.length 12 := ⟨_, rfl⟩
  obtain ⟨m, hm⟩ : ∃ m, m = min x1.length 20 := ⟨_, rfl⟩
  have hn12 : n ≤ 12 := by omega
  have hm20 : m ≤ 20 := by omega
  have hnx : n ≤ x0.length := by omega
  have hmx : m ≤ x1.length := by omega
  have hne : n = x0.length ∨ n = 12 := by omega
  have hme : m = x1.length ∨ m = 20 := by omega
  have H0 := Lib.hid h0
  have H1 := Lib.hid h1
  have HNE := Lib.hid hne
  have HME := Lib.hid hme
  obtain ⟨W, hW⟩ : ∃ W, W = (w.alloc (.cells #[] 30)).alloc (.cells #[] 33) := ⟨_, rfl⟩
  have hb0 : Below w.heap.size w W := by rw [hW]; exact ((Below.refl _ _).alloc (Nat.le_refl _) _).alloc (by simp) _
  have hi5 : W.ownsRow w.heap.size 30 10 (.slice (some ⟨w.heap.size, 0, none⟩) 0 0) 0 [] := by
    rw [hW]
    exact (World.ownsRow_lit (base := w.heap.size) w #[] 0 (Nat.le_refl _) (by decide) rfl).alloc _
  have hs6 : W.ownsRow w.heap.size 33 3 (.slice (some ⟨w.heap.size + 1, 0, none⟩) 0 0) 0 [] := by
    rw [hW]
    have := World.ownsRow_lit (base := w.heap.size) (e := 33) (size := 3) (w.alloc (.cells #[] 30)) #[] 0 (by simp) (by decide) rfl
    simpa using this
  have HR0 : Hid (RowsW w x0 x1 (.slice (some ⟨w.heap.size, 0, none⟩) 0 0) (.slice (some ⟨w.heap.size + 1, 0, none⟩) 0 0) 0 0 W) := Lib.hid ⟨hb0, hi5, hs6⟩
  have HW := Lib.hid hW.symm
  clear h0 h1 hn hm hne hme hW hb0 hi5 hs6
  go_enter Try.func3, Try.ntmps3
  go_upto_region 2 with fail
  rw [HW.out]
  obtain ⟨v60, hv60⟩ : ∃ v, v = Value.slice (some ⟨w.heap.size + 1, 0, none⟩) 0 0 := ⟨_, rfl⟩
  go_upto_block 0 with fail
  go_cut [5] (fun v wx => RowsW w x0 x1 v (.slice (some ⟨w.heap.size + 1, 0, none⟩) 0 0) n 0 wx)
  case first =>
    go_wp2_with fail
    go_loopw [5, 7] (fun v iv wr => ∃ k : Nat, k ≤ n ∧ iv = .int .i64 k ∧ RowsW w x0 x1 v (.slice (some ⟨w.heap.size + 1, 0, none⟩) 0 0) k 0 wr) (fun _ iv _ => n - (intOf iv).toNat)
    case atStart => exact ⟨0, Nat.zero_le _, rfl, HR0.out⟩
    case round =>
      obtain ⟨k, hk, rfl, hR⟩ := hrel
      obtain ⟨V, rfl⟩ : ∃ V, V = wr := ⟨_, rfl⟩
      have HR := Lib.hid hR
      have hszV := hR.bel.size
      obtain ⟨A5, c5, rfl, _, _⟩ := own_slice hR.i
      by_cases hlt : k < n
      · obtain ⟨b, bo, rfl, hbl, hcell⟩ := H0.out k (by omega)
        obtain ⟨x, hx⟩ : ∃ x, x = x0[k]'(by omega) := ⟨_, rfl⟩
        rw [← hx] at hcell
        have hy := (hR.bel.cell (p := ⟨b, bo + k, none⟩) hbl).trans hcell
        have hxg : x0.getD k 0 = x := by rw [List.getD_eq_getElem?_getD, List.getElem?_eq_getElem (by omega), hx]; rfl
        have HY := Lib.hid hy
        have HY0 := Lib.hid hcell
        have HXG := Lib.hid hxg
        have hltI : (k : Int) < (x0.length : Int) := by omega
        have hlt12 : (k : Int) < 12 := by omega
        have ham := am7 x
        have hw1 : IntKind.i64.wrap (97 + (k : Int)) = 97 + (k : Int) := by rw [IntKind.wrap_i64]; omega
        have hw2 : IntKind.u8.wrap (97 + (k : Int)) = 97 + (k : Int) := by rw [IntKind.wrap_u8]; omega
        have hw3 : IntKind.i64.wrap (bits BinOp.and IntKind.i64 x 7 + 1) = rKind x := by rw [IntKind.wrap_i64]; have h1 : rKind x = bits BinOp.and IntKind.i64 x 7 + 1 := rfl; rw [h1]; omega
        have HAM := Lib.hid ham
        have HBL := Lib.hid hbl
        have d0 := (Below.refl V.heap.size V).drew
        clear hcell hx hy hxg hR hbl
        go_upto_region 5 with fail
        have ham := HAM.out
        have HVB := Lib.hid (Nat.lt_of_lt_of_le HBL.out hszV)
        refine wp_region_HT 15 (fun U => U.cell? ⟨b, bo + k, none⟩ = some (.int .i64 x)) (by kernel_rfl) (by decide) (HY.out) (fun hHeld => ?_)
        refine ht_take 0 (v := ?va_1) rfl (by kernel_rfl) (fun _ _ _ h => h) (Or.inl ⟨by rfl, ?ha_1⟩) hHeld ?ra_1
        case ha_1 => ((intro U hSw; have y3 : U.cell? ⟨b, bo + k, none⟩ = some (.int .i64 x) := hSw; go_simp; (try simp only [hw1, hw2, hw3])); (try (with_reducible rfl)))
        try simp only [Act.put, List.setIfInBounds_toArray, List.set_cons_zero, List.set_cons_succ]
        refine ht_take 1 (v := ?va_2) rfl (by kernel_rfl) (fun _ _ _ h => h) (Or.inl ⟨by rfl, ?ha_2⟩) hHeld ?ra_2
        case ha_2 => ((intro U hSw; have y3 : U.cell? ⟨b, bo + k, none⟩ = some (.int .i64 x) := hSw; go_simp; (try simp only [hw1, hw2, hw3])); (try (with_reducible rfl)))
        try simp only [Act.put, List.setIfInBounds_toArray, List.set_cons_zero, List.set_cons_succ]
        refine ht_take 2 (v := ?va_3) rfl (by kernel_rfl) (fun _ _ _ h => h) (Or.inl ⟨by rfl, ?ha_3⟩) hHeld ?ra_3
        case ha_3 => ((intro U hSw; have y3 : U.cell? ⟨b, bo + k, none⟩ = some (.int .i64 x) := hSw; go_simp; (try simp only [hw1, hw2, hw3])); (try (with_reducible rfl)))
        try simp only [Act.put, List.setIfInBounds_toArray, List.set_cons_zero, List.set_cons_succ]
        refine ht_take 3 (v := ?va_4) rfl (by kernel_rfl) (fun _ _ _ h => h) (Or.inl ⟨by rfl, ?ha_4⟩) hHeld ?ra_4
        case ha_4 => ((intro U hSw; have y3 : U.cell? ⟨b, bo + k, none⟩ = some (.int .i64 x) := hSw; go_simp; (try simp only [hw1, hw2, hw3])); (try (with_reducible rfl)))
        try simp only [Act.put, List.setIfInBounds_toArray, List.set_cons_zero, List.set_cons_succ]
        refine ht_take 4 (v := ?va_5) rfl (by kernel_rfl) (fun _ _ _ h => h) (Or.inl ⟨by rfl, ?ha_5⟩) hHeld ?ra_5
        case ha_5 => ((intro U hSw; have y3 : U.cell? ⟨b, bo + k, none⟩ = some (.int .i64 x) := hSw; go_simp; (try simp only [hw1, hw2, hw3])); (try (with_reducible rfl)))
        try simp only [Act.put, List.setIfInBounds_toArray, List.set_cons_zero, List.set_cons_succ]
        refine ht_take 5 (v := ?va_6) rfl (by kernel_rfl) (fun _ _ _ h => h) (Or.inl ⟨by rfl, ?ha_6⟩) hHeld ?ra_6
        case ha_6 => ((intro U hSw; have y3 : U.cell? ⟨b, bo + k, none⟩ = some (.int .i64 x) := hSw; go_simp; (try simp only [hw1, hw2, hw3])); (try (with_reducible rfl)))
        try simp only [Act.put, List.setIfInBounds_toArray, List.set_cons_zero, List.set_cons_succ]
        refine ht_take 6 (v := ?va_7) rfl (by kernel_rfl) (fun _ _ _ h => h) (Or.inl ⟨by rfl, ?ha_7⟩) hHeld ?ra_7
        case ha_7 => ((intro U hSw; have y3 : U.cell? ⟨b, bo + k, none⟩ = some (.int .i64 x) := hSw; go_simp; (try simp only [hw1, hw2, hw3])); (try (with_reducible rfl)))
        try simp only [Act.put, List.setIfInBounds_toArray, List.set_cons_zero, List.set_cons_succ]
        refine ht_take 7 (v := ?va_8) rfl (by kernel_rfl) (fun _ _ _ h => h) (Or.inl ⟨by rfl, ?ha_8⟩) hHeld ?ra_8
        case ha_8 => ((intro U hSw; have y3 : U.cell? ⟨b, bo + k, none⟩ = some (.int .i64 x) := hSw; go_simp; (try simp only [hw1, hw2, hw3])); (try (with_reducible rfl)))
        try simp only [Act.put, List.setIfInBounds_toArray, List.set_cons_zero, List.set_cons_succ]
        refine ht_take 8 (v := ?va_9) rfl (by kernel_rfl) (fun _ _ _ h => h) (Or.inl ⟨by rfl, ?ha_9⟩) hHeld ?ra_9
        case ha_9 => ((intro U hSw; have y3 : U.cell? ⟨b, bo + k, none⟩ = some (.int .i64 x) := hSw; go_simp; (try simp only [hw1, hw2, hw3])); (try (with_reducible rfl)))
        try simp only [Act.put, List.setIfInBounds_toArray, List.set_cons_zero, List.set_cons_succ]
        refine ht_take 9 (v := ?va_10) rfl (by kernel_rfl) (fun _ _ _ h => h) (Or.inl ⟨by rfl, ?ha_10⟩) hHeld ?ra_10
        case ha_10 => ((intro U hSw; have y3 : U.cell? ⟨b, bo + k, none⟩ = some (.int .i64 x) := hSw; go_simp; (try simp only [hw1, hw2, hw3])); (try (with_reducible rfl)))
        try simp only [Act.put, List.setIfInBounds_toArray, List.set_cons_zero, List.set_cons_succ]
        refine ht_one 10 rfl (by kernel_rfl) (fun K hK => ?_)
        go_simp
        obtain ⟨gB, hgB⟩ : ∃ g, g = V.heap.size := ⟨_, rfl⟩
        obtain ⟨T1, hT⟩ : ∃ T, T = (V.drew).alloc (.cells #[.int .u8 (97 + (k : Int))] 5) := ⟨_, rfl⟩
        have d1 : Below V.heap.size V T1 := by rw [hT]; exact d0.alloc d0.size _
        have kB1 : Blk T1 gB 5 #[.int .u8 (97 + (k : Int))] := by rw [hT, hgB]; exact Blk.new _ _ _
        show K _ ((V.drew).alloc (.cells #[.int .u8 (97 + (k : Int))] 5))
        rw [← hT, ← hgB]
        clear hT hgB
        refine hK.out _ _ ((d1.cell (p := ⟨b, bo + k, none⟩) HVB.out).trans HY.out) (fun hHeld => ?_)
        clear hK K
        try simp only [Act.put, List.setIfInBounds_toArray, List.set_cons_zero, List.set_cons_succ]
        refine ht_one 11 rfl (by kernel_rfl) (fun K hK => ?_)
        have hcv := conv_at1 (kB1.cell 0 : T1.cell? ⟨gB, 0, none⟩ = some (.int .u8 (97 + (k : Int))))
        go_simp
        refine hK.out _ _ ((d1.cell (p := ⟨b, bo + k, none⟩) HVB.out).trans HY.out) (fun hHeld => ?_)
        clear hK K
        try simp only [Act.put, List.setIfInBounds_toArray, List.set_cons_zero, List.set_cons_succ]
        refine ht_take 12 (v := ?va_11) rfl (by kernel_rfl) (fun _ _ _ h => h) (Or.inl ⟨by rfl, ?ha_11⟩) hHeld ?ra_11
        case ha_11 => ((intro U hSw; have y3 : U.cell? ⟨b, bo + k, none⟩ = some (.int .i64 x) := hSw; go_simp; (try simp only [hw1, hw2, hw3])); (try (with_reducible rfl)))
        try simp only [Act.put, List.setIfInBounds_toArray, List.set_cons_zero, List.set_cons_succ]
        refine ht_one 13 rfl (by kernel_rfl) (fun K hK => ?_)
        go_simp
        obtain ⟨gI, hgI⟩ : ∃ g, g = T1.heap.size := ⟨_, rfl⟩
        obtain ⟨T2, hT⟩ : ∃ T, T = (T1).alloc (.cells #[.int .i64 (rKind x), .string (lt k), .string ⟨#[]⟩, .slice none 0 0, .slice none 0 0, .bool false, .string ⟨#[]⟩, .slice none 0 0, .slice none 0 0, .slice none 0 0] 30) := ⟨_, rfl⟩
        have d2 : Below V.heap.size V T2 := by rw [hT]; exact d1.alloc d1.size _
        have kI2 : Blk T2 gI 30 #[.int .i64 (rKind x), .string (lt k), .string ⟨#[]⟩, .slice none 0 0, .slice none 0 0, .bool false, .string ⟨#[]⟩, .slice none 0 0, .slice none 0 0, .slice none 0 0] := by rw [hT, hgI]; exact Blk.new _ _ _
        show K _ ((T1).alloc (.cells #[.int .i64 (rKind x), .string (lt k), .string ⟨#[]⟩, .slice none 0 0, .slice none 0 0, .bool false, .string ⟨#[]⟩, .slice none 0 0, .slice none 0 0, .slice none 0 0] 30))
        rw [← hT, ← hgI]
        clear hT hgI
        refine hK.out _ _ ((d2.cell (p := ⟨b, bo + k, none⟩) HVB.out).trans HY.out) (fun hHeld => ?_)
        clear hK K
        try simp only [Act.put, List.setIfInBounds_toArray, List.set_cons_zero, List.set_cons_succ]
        refine ht_one 14 rfl (by kernel_rfl) (fun K hK => ?_)
        have hi2 : T2.ownsRow w.heap.size 30 10 (.slice A5 k c5) k (rowI x0 k) := own_below HR.out.i d2
        have hs2 : T2.ownsRow w.heap.size 33 3 (.slice (some ⟨w.heap.size + 1, 0, none⟩) 0 0) 0 (rowS x1 0) := own_below HR.out.s d2
        refine step_append_lies _ (by rfl) (.tmp 33) (.tmp 46) _ (by rfl) w.heap.size 30 i0 _ 10 184 Try.underlying24 hi0 hz0 hz1 hz2 rfl (by omega) (.slice A5 k c5) k (rowI x0 k) (by rfl) hi2 ⟨gI, 0, none⟩ 1 1 [.int .i64 (rKind x), .string (lt k), .string ⟨#[]⟩, .slice none 0 0, .slice none 0 0, .bool false, .string ⟨#[]⟩, .slice none 0 0, .slice none 0 0, .slice none 0 0] (by rfl) (by rfl) (World.news_of_block (cs := #[.int .i64 (rKind x), .string (lt k), .string ⟨#[]⟩, .slice none 0 0, .slice none 0 0, .bool false, .string ⟨#[]⟩, .slice none 0 0, .slice none 0 0, .slice none 0 0]) (t := 30) (fr := (0, 0)) kI2) (by simp [Value.oneCell']) (by omega) (by unfold maxLen; omega) (by omega) (by have := d2.size; omega) _ rfl ?_
        intro g6 cap6 T3 hown6 hgrow6 _ _
        have hb3 : Below w.heap.size w T3 := (HR.out.bel.trans (d2.mono hszV)).grown hgrow6 (by have := d2.size; omega) (fun j hj => (hi2.lt j hj).1)
        have hs3 : T3.ownsRow w.heap.size 33 3 (.slice (some ⟨w.heap.size + 1, 0, none⟩) 0 0) 0 (rowS x1 0) := hs2.kept hgrow6 (.inr (fun e => own_ne hs2 hi2 (by decide) _ rfl e.symm))
        have HN : Hid (RowsW w x0 x1 (.slice (some ⟨g6, 0, none⟩) (k + 1) cap6) (.slice (some ⟨w.heap.size + 1, 0, none⟩) 0 0) (k + 1) 0 T3) := Lib.hid ⟨hb3, by rw [rowI_succ, HXG.out]; exact hown6, hs3⟩
        clear hgrow6 hown6
        refine hK.out _ _ ((hb3.cell (p := ⟨b, bo + k, none⟩) HBL.out).trans HY0.out) (fun hHeld => ?_)
        clear hK K
        try simp only [Act.put, List.setIfInBounds_toArray, List.set_cons_zero, List.set_cons_succ]
        refine ht_done (by kernel_rfl) rfl ?_
        go_wp2_with fail
        go_roundw
        case rel => exact ⟨k + 1, by omega, by go_num, HN.out⟩
        case measure => simp [intOf]; omega
      · have hnk : ¬ ((k : Int) < (x0.length : Int)) ∨ ¬ ((k : Int) < 12) := by have := HNE.out; omega
        have hkn : k = n := by omega
        subst hkn
        clear hR hlt
        rcases hnk with hnk | hnk
        · go_wp2_with fail
          go_meet
          case rel => exact HR.out
        · by_cases hnk2 : (k : Int) < (x0.length : Int)
          · go_wp2_with fail
            go_meet
            case rel => exact HR.out
          · go_wp2_with fail
            go_meet
            case rel => exact HR.out
  case rest =>
    obtain ⟨A5, c5, rfl, _, _⟩ := own_slice hcut.i
    have HR1 := Lib.hid hcut
    clear hcut HR0
    go_upto_block 2 with fail
    go_cut [6] (fun v wx => RowsW w x0 x1 (.slice A5 n c5) v n m wx)
    case first =>
      go_wp2_with fail
      go_loopw [6, 8] (fun v iv wr => ∃ k : Nat, k ≤ m ∧ iv = .int .i64 k ∧ RowsW w x0 x1 (.slice A5 n c5) v n k wr) (fun _ iv _ => m - (intOf iv).toNat)
      case atStart => exact ⟨0, Nat.zero_le _, rfl, HR1.out⟩
      case round =>
        obtain ⟨k, hk, rfl, hR⟩ := hrel
        obtain ⟨V, rfl⟩ : ∃ V, V = wr := ⟨_, rfl⟩
        have HR := Lib.hid hR
        have hszV := hR.bel.size
        obtain ⟨A6, c6, rfl, _, _⟩ := own_slice hR.s
        by_cases hlt : k < m
        · obtain ⟨b, bo, rfl, hbl, hcell, hcell2⟩ := H1.out k (by omega)
          obtain ⟨x, hx⟩ : ∃ x, x = x1[k]'(by omega) := ⟨_, rfl⟩
          rw [← hx] at hcell hcell2
          have hxg : x1.getD k (0, 0) = x := by rw [List.getD_eq_getElem?_getD, List.getElem?_eq_getElem (by omega), hx]; rfl
          obtain ⟨p, q⟩ := x
          obtain ⟨a, ha⟩ : ∃ a, a = rNum p := ⟨_, rfl⟩
          obtain ⟨z, hz⟩ : ∃ z, z = rNum q := ⟨_, rfl⟩
          have hed : rEdge x1 k = (a, z) := by unfold rEdge; rw [hxg, ha, hz]
          have hf1 : bits BinOp.and IntKind.i64 p 15 = (a : Int) := by rw [ha]; exact rNum_eq p
          have hf2 : bits BinOp.and IntKind.i64 q 15 = (z : Int) := by rw [hz]; exact rNum_eq q
          have ha16 : a < 16 := by rw [ha]; exact rNum_lt p
          have hz16 : z < 16 := by rw [hz]; exact rNum_lt q
          have HY0 := Lib.hid hcell
          have HZ0 := Lib.hid hcell2
          have HY := Lib.hid ((hR.bel.cell (p := ⟨b, bo + k * 2, none⟩) hbl).trans hcell)
          have HZ := Lib.hid ((hR.bel.cell (p := ⟨b, bo + k * 2 + 1, none⟩) hbl).trans hcell2)
          have HBL := Lib.hid hbl
          have HVB := Lib.hid (Nat.lt_of_lt_of_le hbl hszV)
          have HED := Lib.hid hed
          have hltI : (k : Int) < (x1.length : Int) := by omega
          have hlt12 : (k : Int) < 20 := by omega
          have hw1 : IntKind.i64.wrap (97 + (a : Int)) = 97 + (a : Int) := by rw [IntKind.wrap_i64]; omega
          have hw2 : IntKind.u8.wrap (97 + (a : Int)) = 97 + (a : Int) := by rw [IntKind.wrap_u8]; omega
          have hw3 : IntKind.i64.wrap (97 + (z : Int)) = 97 + (z : Int) := by rw [IntKind.wrap_i64]; omega
          have hw4 : IntKind.u8.wrap (97 + (z : Int)) = 97 + (z : Int) := by rw [IntKind.wrap_u8]; omega
          have d0 := (Below.refl V.heap.size V).drew
          clear hcell hcell2 hx hxg hR hbl hed ha hz
          go_upto_region 9 with fail
          refine wp_region_HT 24 (fun U => U.cell? ⟨b, bo + k * 2, none⟩ = some (.int .i64 p) ∧ U.cell? ⟨b, bo + k * 2 + 1, none⟩ = some (.int .i64 q)) (by kernel_rfl) (by decide) (⟨HY.out, HZ.out⟩) (fun hHeld => ?_)
          refine ht_take 0 (v := ?vc_1) rfl (by kernel_rfl) (fun _ _ _ h => h) (Or.inl ⟨by rfl, ?hc_1⟩) hHeld ?rc_1
          case hc_1 => ((intro U hSw; have y3 := hSw.1; have y4 := hSw.2; go_simp; (try simp only [hf1, hf2]); (try simp only [hw1, hw2, hw3, hw4])); (try (with_reducible rfl)))
          try simp only [Act.put, List.setIfInBounds_toArray, List.set_cons_zero, List.set_cons_succ]
          refine ht_take 1 (v := ?vc_2) rfl (by kernel_rfl) (fun _ _ _ h => h) (Or.inl ⟨by rfl, ?hc_2⟩) hHeld ?rc_2
          case hc_2 => ((intro U hSw; have y3 := hSw.1; have y4 := hSw.2; go_simp; (try simp only [hf1, hf2]); (try simp only [hw1, hw2, hw3, hw4])); (try (with_reducible rfl)))
          try simp only [Act.put, List.setIfInBounds_toArray, List.set_cons_zero, List.set_cons_succ]
          refine ht_take 2 (v := ?vc_3) rfl (by kernel_rfl) (fun _ _ _ h => h) (Or.inl ⟨by rfl, ?hc_3⟩) hHeld ?rc_3
          case hc_3 => ((intro U hSw; have y3 := hSw.1; have y4 := hSw.2; go_simp; (try simp only [hf1, hf2]); (try simp only [hw1, hw2, hw3, hw4])); (try (with_reducible rfl)))
          try simp only [Act.put, List.setIfInBounds_toArray, List.set_cons_zero, List.set_cons_succ]
          refine ht_take 3 (v := ?vc_4) rfl (by kernel_rfl) (fun _ _ _ h => h) (Or.inl ⟨by rfl, ?hc_4⟩) hHeld ?rc_4
          case hc_4 => ((intro U hSw; have y3 := hSw.1; have y4 := hSw.2; go_simp; (try simp only [hf1, hf2]); (try simp only [hw1, hw2, hw3, hw4])); (try (with_reducible rfl)))
          try simp only [Act.put, List.setIfInBounds_toArray, List.set_cons_zero, List.set_cons_succ]
          refine ht_take 4 (v := ?vc_5) rfl (by kernel_rfl) (fun _ _ _ h => h) (Or.inl ⟨by rfl, ?hc_5⟩) hHeld ?rc_5
          case hc_5 => ((intro U hSw; have y3 := hSw.1; have y4 := hSw.2; go_simp; (try simp only [hf1, hf2]); (try simp only [hw1, hw2, hw3, hw4])); (try (with_reducible rfl)))
          try simp only [Act.put, List.setIfInBounds_toArray, List.set_cons_zero, List.set_cons_succ]
          refine ht_take 5 (v := ?vc_6) rfl (by kernel_rfl) (fun _ _ _ h => h) (Or.inl ⟨by rfl, ?hc_6⟩) hHeld ?rc_6
          case hc_6 => ((intro U hSw; have y3 := hSw.1; have y4 := hSw.2; go_simp; (try simp only [hf1, hf2]); (try simp only [hw1, hw2, hw3, hw4])); (try (with_reducible rfl)))
          try simp only [Act.put, List.setIfInBounds_toArray, List.set_cons_zero, List.set_cons_succ]
          refine ht_take 6 (v := ?vc_7) rfl (by kernel_rfl) (fun _ _ _ h => h) (Or.inl ⟨by rfl, ?hc_7⟩) hHeld ?rc_7
          case hc_7 => ((intro U hSw; have y3 := hSw.1; have y4 := hSw.2; go_simp; (try simp only [hf1, hf2]); (try simp only [hw1, hw2, hw3, hw4])); (try (with_reducible rfl)))
          try simp only [Act.put, List.setIfInBounds_toArray, List.set_cons_zero, List.set_cons_succ]
          refine ht_take 7 (v := ?vc_8) rfl (by kernel_rfl) (fun _ _ _ h => h) (Or.inl ⟨by rfl, ?hc_8⟩) hHeld ?rc_8
          case hc_8 => ((intro U hSw; have y3 := hSw.1; have y4 := hSw.2; go_simp; (try simp only [hf1, hf2]); (try simp only [hw1, hw2, hw3, hw4])); (try (with_reducible rfl)))
          try simp only [Act.put, List.setIfInBounds_toArray, List.set_cons_zero, List.set_cons_succ]
          refine ht_take 8 (v := ?vc_9) rfl (by kernel_rfl) (fun _ _ _ h => h) (Or.inl ⟨by rfl, ?hc_9⟩) hHeld ?rc_9
          case hc_9 => ((intro U hSw; have y3 := hSw.1; have y4 := hSw.2; go_simp; (try simp only [hf1, hf2]); (try simp only [hw1, hw2, hw3, hw4])); (try (with_reducible rfl)))
          try simp only [Act.put, List.setIfInBounds_toArray, List.set_cons_zero, List.set_cons_succ]
          refine ht_take 11 (v := ?vc_10) rfl (by kernel_rfl) (fun _ _ _ h => h) (Or.inl ⟨by rfl, ?hc_10⟩) hHeld ?rc_10
          case hc_10 => ((intro U hSw; have y3 := hSw.1; have y4 := hSw.2; go_simp; (try simp only [hf1, hf2]); (try simp only [hw1, hw2, hw3, hw4])); (try (with_reducible rfl)))
          try simp only [Act.put, List.setIfInBounds_toArray, List.set_cons_zero, List.set_cons_succ]
          refine ht_take 12 (v := ?vc_11) rfl (by kernel_rfl) (fun _ _ _ h => h) (Or.inl ⟨by rfl, ?hc_11⟩) hHeld ?rc_11
          case hc_11 => ((intro U hSw; have y3 := hSw.1; have y4 := hSw.2; go_simp; (try simp only [hf1, hf2]); (try simp only [hw1, hw2, hw3, hw4])); (try (with_reducible rfl)))
          try simp only [Act.put, List.setIfInBounds_toArray, List.set_cons_zero, List.set_cons_succ]
          refine ht_take 13 (v := ?vc_12) rfl (by kernel_rfl) (fun _ _ _ h => h) (Or.inl ⟨by rfl, ?hc_12⟩) hHeld ?rc_12
          case hc_12 => ((intro U hSw; have y3 := hSw.1; have y4 := hSw.2; go_simp; (try simp only [hf1, hf2]); (try simp only [hw1, hw2, hw3, hw4])); (try (with_reducible rfl)))
          try simp only [Act.put, List.setIfInBounds_toArray, List.set_cons_zero, List.set_cons_succ]
          refine ht_take 14 (v := ?vc_13) rfl (by kernel_rfl) (fun _ _ _ h => h) (Or.inl ⟨by rfl, ?hc_13⟩) hHeld ?rc_13
          case hc_13 => ((intro U hSw; have y3 := hSw.1; have y4 := hSw.2; go_simp; (try simp only [hf1, hf2]); (try simp only [hw1, hw2, hw3, hw4])); (try (with_reducible rfl)))
          try simp only [Act.put, List.setIfInBounds_toArray, List.set_cons_zero, List.set_cons_succ]
          refine ht_take 15 (v := ?vc_14) rfl (by kernel_rfl) (fun _ _ _ h => h) (Or.inl ⟨by rfl, ?hc_14⟩) hHeld ?rc_14
          case hc_14 => ((intro U hSw; have y3 := hSw.1; have y4 := hSw.2; go_simp; (try simp only [hf1, hf2]); (try simp only [hw1, hw2, hw3, hw4])); (try (with_reducible rfl)))
          try simp only [Act.put, List.setIfInBounds_toArray, List.set_cons_zero, List.set_cons_succ]
          refine ht_take 16 (v := ?vc_15) rfl (by kernel_rfl) (fun _ _ _ h => h) (Or.inl ⟨by rfl, ?hc_15⟩) hHeld ?rc_15
          case hc_15 => ((intro U hSw; have y3 := hSw.1; have y4 := hSw.2; go_simp; (try simp only [hf1, hf2]); (try simp only [hw1, hw2, hw3, hw4])); (try (with_reducible rfl)))
          try simp only [Act.put, List.setIfInBounds_toArray, List.set_cons_zero, List.set_cons_succ]
          refine ht_take 17 (v := ?vc_16) rfl (by kernel_rfl) (fun _ _ _ h => h) (Or.inl ⟨by rfl, ?hc_16⟩) hHeld ?rc_16
          case hc_16 => ((intro U hSw; have y3 := hSw.1; have y4 := hSw.2; go_simp; (try simp only [hf1, hf2]); (try simp only [hw1, hw2, hw3, hw4])); (try (with_reducible rfl)))
          try simp only [Act.put, List.setIfInBounds_toArray, List.set_cons_zero, List.set_cons_succ]
          refine ht_take 18 (v := ?vc_17) rfl (by kernel_rfl) (fun _ _ _ h => h) (Or.inl ⟨by rfl, ?hc_17⟩) hHeld ?rc_17
          case hc_17 => ((intro U hSw; have y3 := hSw.1; have y4 := hSw.2; go_simp; (try simp only [hf1, hf2]); (try simp only [hw1, hw2, hw3, hw4])); (try (with_reducible rfl)))
          try simp only [Act.put, List.setIfInBounds_toArray, List.set_cons_zero, List.set_cons_succ]
          refine wpHT_all [9, 19] (by kernel_rfl) ?_
          refine ht_cons (i := 9) rfl (fun K hK => ?_) (ht_cons (i := 19) rfl (fun K hK => ?_) (allHT.nil))
          · go_simp
            obtain ⟨gP, hgP⟩ : ∃ g, g = V.heap.size := ⟨_, rfl⟩
            obtain ⟨T1, hT⟩ : ∃ T, T = (V.drew).alloc (.cells #[.int .u8 (97 + (a : Int))] 5) := ⟨_, rfl⟩
            have d1 : Below V.heap.size V T1 := by rw [hT]; exact d0.alloc d0.size _
            have kP1 : Blk T1 gP 5 #[.int .u8 (97 + (a : Int))] := by rw [hT, hgP]; exact Blk.new _ _ _
            show K _ ((V.drew).alloc (.cells #[.int .u8 (97 + (a : Int))] 5))
            rw [← hT, ← hgP]
            clear hT hgP
            refine hK.out _ _ (⟨(d1.cell (p := ⟨b, bo + k * 2, none⟩) HVB.out).trans HY.out, (d1.cell (p := ⟨b, bo + k * 2 + 1, none⟩) HVB.out).trans HZ.out⟩) (fun hHeld => ?_)
            clear hK K
            try simp only [Act.put, List.setIfInBounds_toArray, List.set_cons_zero, List.set_cons_succ]
            refine wpHT_all [10, 19] (by kernel_rfl) ?_
            refine ht_cons (i := 10) rfl (fun K hK => ?_) (ht_cons (i := 19) rfl (fun K hK => ?_) (allHT.nil))
            · have hcv := conv_at1 (kP1.cell 0 : T1.cell? ⟨gP, 0, none⟩ = some (.int .u8 (97 + (a : Int))))
              go_simp
              refine hK.out _ _ (⟨(d1.cell (p := ⟨b, bo + k * 2, none⟩) HVB.out).trans HY.out, (d1.cell (p := ⟨b, bo + k * 2 + 1, none⟩) HVB.out).trans HZ.out⟩) (fun hHeld => ?_)
              clear hK K
              try simp only [Act.put, List.setIfInBounds_toArray, List.set_cons_zero, List.set_cons_succ]
              refine ht_one 19 rfl (by kernel_rfl) (fun K hK => ?_)
              go_simp
              obtain ⟨gQ, hgQ⟩ : ∃ g, g = T1.heap.size := ⟨_, rfl⟩
              obtain ⟨T2, hT⟩ : ∃ T, T = (T1).alloc (.cells #[.int .u8 (97 + (z : Int))] 5) := ⟨_, rfl⟩
              have d2 : Below V.heap.size V T2 := by rw [hT]; exact d1.alloc d1.size _
              have kQ2 : Blk T2 gQ 5 #[.int .u8 (97 + (z : Int))] := by rw [hT, hgQ]; exact Blk.new _ _ _
              have kP2 : Blk T2 gP 5 #[.int .u8 (97 + (a : Int))] := by rw [hT]; exact kP1.alloc _
              show K _ ((T1).alloc (.cells #[.int .u8 (97 + (z : Int))] 5))
              rw [← hT, ← hgQ]
              clear hT hgQ
              refine hK.out _ _ (⟨(d2.cell (p := ⟨b, bo + k * 2, none⟩) HVB.out).trans HY.out, (d2.cell (p := ⟨b, bo + k * 2 + 1, none⟩) HVB.out).trans HZ.out⟩) (fun hHeld => ?_)
              clear hK K
              try simp only [Act.put, List.setIfInBounds_toArray, List.set_cons_zero, List.set_cons_succ]
              refine ht_one 20 rfl (by kernel_rfl) (fun K hK => ?_)
              have hcv := conv_at1 (kQ2.cell 0 : T2.cell? ⟨gQ, 0, none⟩ = some (.int .u8 (97 + (z : Int))))
              go_simp
              refine hK.out _ _ (⟨(d2.cell (p := ⟨b, bo + k * 2, none⟩) HVB.out).trans HY.out, (d2.cell (p := ⟨b, bo + k * 2 + 1, none⟩) HVB.out).trans HZ.out⟩) (fun hHeld => ?_)
              clear hK K
              try simp only [Act.put, List.setIfInBounds_toArray, List.set_cons_zero, List.set_cons_succ]
              refine ht_take 21 (v := ?vc_18) rfl (by kernel_rfl) (fun _ _ _ h => h) (Or.inl ⟨by rfl, ?hc_18⟩) hHeld ?rc_18
              case hc_18 => ((intro U hSw; have y3 := hSw.1; have y4 := hSw.2; go_simp; (try simp only [hf1, hf2]); (try simp only [hw1, hw2, hw3, hw4])); (try (with_reducible rfl)))
              try simp only [Act.put, List.setIfInBounds_toArray, List.set_cons_zero, List.set_cons_succ]
              refine ht_one 22 rfl (by kernel_rfl) (fun K hK => ?_)
              go_simp
              obtain ⟨gS, hgS⟩ : ∃ g, g = T2.heap.size := ⟨_, rfl⟩
              obtain ⟨T3, hT⟩ : ∃ T, T = (T2).alloc (.cells #[.string ⟨#[]⟩, .string (lt a), .string (lt z)] 33) := ⟨_, rfl⟩
              have d3 : Below V.heap.size V T3 := by rw [hT]; exact d2.alloc d2.size _
              have kS3 : Blk T3 gS 33 #[.string ⟨#[]⟩, .string (lt a), .string (lt z)] := by rw [hT, hgS]; exact Blk.new _ _ _
              have kP3 : Blk T3 gP 5 #[.int .u8 (97 + (a : Int))] := by rw [hT]; exact kP2.alloc _
              have kQ3 : Blk T3 gQ 5 #[.int .u8 (97 + (z : Int))] := by rw [hT]; exact kQ2.alloc _
              show K _ ((T2).alloc (.cells #[.string ⟨#[]⟩, .string (lt a), .string (lt z)] 33))
              rw [← hT, ← hgS]
              clear hT hgS
              refine hK.out _ _ (⟨(d3.cell (p := ⟨b, bo + k * 2, none⟩) HVB.out).trans HY.out, (d3.cell (p := ⟨b, bo + k * 2 + 1, none⟩) HVB.out).trans HZ.out⟩) (fun hHeld => ?_)
              clear hK K
              try simp only [Act.put, List.setIfInBounds_toArray, List.set_cons_zero, List.set_cons_succ]
              refine ht_one 23 rfl (by kernel_rfl) (fun K hK => ?_)
              have hi3 : T3.ownsRow w.heap.size 30 10 (.slice A5 n c5) n (rowI x0 n) := own_below HR.out.i d3
              have hs3 : T3.ownsRow w.heap.size 33 3 (.slice A6 k c6) k (rowS x1 k) := own_below HR.out.s d3
              refine step_append_lies _ (by rfl) (.tmp 58) (.tmp 80) _ (by rfl) w.heap.size 33 j0 _ 3 48 Try.underlying25 hj0 hy0 hy1 hy2 rfl (by omega) (.slice A6 k c6) k (rowS x1 k) (by rfl) hs3 ⟨gS, 0, none⟩ 1 1 [.string ⟨#[]⟩, .string (lt a), .string (lt z)] (by rfl) (by rfl) (World.news_of_block (cs := #[.string ⟨#[]⟩, .string (lt a), .string (lt z)]) (t := 33) (fr := (0, 0)) kS3) (by simp [Value.oneCell']) (by omega) (by unfold maxLen; omega) (by omega) (by have := d3.size; omega) _ rfl ?_
              intro g6 cap6 T4 hown6 hgrow6 _ _
              have hb4 : Below w.heap.size w T4 := (HR.out.bel.trans (d3.mono hszV)).grown hgrow6 (by have := d3.size; omega) (fun j hj => (hs3.lt j hj).1)
              have hi4 : T4.ownsRow w.heap.size 30 10 (.slice A5 n c5) n (rowI x0 n) := hi3.kept hgrow6 (by
                rcases hv : (Value.slice A5 n c5).ownBlock with _ | q5
                · exact .inl rfl
                · exact .inr (fun e => own_ne hi3 hs3 (by decide) q5 hv e.symm))
              have HN : Hid (RowsW w x0 x1 (.slice A5 n c5) (.slice (some ⟨g6, 0, none⟩) (k + 1) cap6) n (k + 1) T4) := Lib.hid ⟨hb4, hi4, by rw [rowS_succ, HED.out]; exact hown6⟩
              clear hgrow6 hown6
              refine hK.out _ _ (⟨(hb4.cell (p := ⟨b, bo + k * 2, none⟩) HBL.out).trans HY0.out, (hb4.cell (p := ⟨b, bo + k * 2 + 1, none⟩) HBL.out).trans HZ0.out⟩) (fun hHeld => ?_)
              clear hK K
              try simp only [Act.put, List.setIfInBounds_toArray, List.set_cons_zero, List.set_cons_succ]
              refine ht_done (by kernel_rfl) rfl ?_
              go_wp2_with fail
              go_roundw
              case rel => exact ⟨k + 1, by omega, by go_num, HN.out⟩
              case measure => simp [intOf]; omega
            · go_simp
              obtain ⟨gQ, hgQ⟩ : ∃ g, g = T1.heap.size := ⟨_, rfl⟩
              obtain ⟨T2, hT⟩ : ∃ T, T = (T1).alloc (.cells #[.int .u8 (97 + (z : Int))] 5) := ⟨_, rfl⟩
              have d2 : Below V.heap.size V T2 := by rw [hT]; exact d1.alloc d1.size _
              have kQ2 : Blk T2 gQ 5 #[.int .u8 (97 + (z : Int))] := by rw [hT, hgQ]; exact Blk.new _ _ _
              have kP2 : Blk T2 gP 5 #[.int .u8 (97 + (a : Int))] := by rw [hT]; exact kP1.alloc _
              show K _ ((T1).alloc (.cells #[.int .u8 (97 + (z : Int))] 5))
              rw [← hT, ← hgQ]
              clear hT hgQ
              refine hK.out _ _ (⟨(d2.cell (p := ⟨b, bo + k * 2, none⟩) HVB.out).trans HY.out, (d2.cell (p := ⟨b, bo + k * 2 + 1, none⟩) HVB.out).trans HZ.out⟩) (fun hHeld => ?_)
              clear hK K
              try simp only [Act.put, List.setIfInBounds_toArray, List.set_cons_zero, List.set_cons_succ]
              refine wpHT_all [10, 20] (by kernel_rfl) ?_
              refine ht_cons (i := 10) rfl (fun K hK => ?_) (ht_cons (i := 20) rfl (fun K hK => ?_) (allHT.nil))
              · have hcv := conv_at1 (kP2.cell 0 : T2.cell? ⟨gP, 0, none⟩ = some (.int .u8 (97 + (a : Int))))
                go_simp
                refine hK.out _ _ (⟨(d2.cell (p := ⟨b, bo + k * 2, none⟩) HVB.out).trans HY.out, (d2.cell (p := ⟨b, bo + k * 2 + 1, none⟩) HVB.out).trans HZ.out⟩) (fun hHeld => ?_)
                clear hK K
                try simp only [Act.put, List.setIfInBounds_toArray, List.set_cons_zero, List.set_cons_succ]
                refine ht_one 20 rfl (by kernel_rfl) (fun K hK => ?_)
                have hcv := conv_at1 (kQ2.cell 0 : T2.cell? ⟨gQ, 0, none⟩ = some (.int .u8 (97 + (z : Int))))
                go_simp
                refine hK.out _ _ (⟨(d2.cell (p := ⟨b, bo + k * 2, none⟩) HVB.out).trans HY.out, (d2.cell (p := ⟨b, bo + k * 2 + 1, none⟩) HVB.out).trans HZ.out⟩) (fun hHeld => ?_)
                clear hK K
                try simp only [Act.put, List.setIfInBounds_toArray, List.set_cons_zero, List.set_cons_succ]
                refine ht_take 21 (v := ?vc_19) rfl (by kernel_rfl) (fun _ _ _ h => h) (Or.inl ⟨by rfl, ?hc_19⟩) hHeld ?rc_19
                case hc_19 => ((intro U hSw; have y3 := hSw.1; have y4 := hSw.2; go_simp; (try simp only [hf1, hf2]); (try simp only [hw1, hw2, hw3, hw4])); (try (with_reducible rfl)))
                try simp only [Act.put, List.setIfInBounds_toArray, List.set_cons_zero, List.set_cons_succ]
                refine ht_one 22 rfl (by kernel_rfl) (fun K hK => ?_)
                go_simp
                obtain ⟨gS, hgS⟩ : ∃ g, g = T2.heap.size := ⟨_, rfl⟩
                obtain ⟨T3, hT⟩ : ∃ T, T = (T2).alloc (.cells #[.string ⟨#[]⟩, .string (lt a), .string (lt z)] 33) := ⟨_, rfl⟩
                have d3 : Below V.heap.size V T3 := by rw [hT]; exact d2.alloc d2.size _
                have kS3 : Blk T3 gS 33 #[.string ⟨#[]⟩, .string (lt a), .string (lt z)] := by rw [hT, hgS]; exact Blk.new _ _ _
                have kP3 : Blk T3 gP 5 #[.int .u8 (97 + (a : Int))] := by rw [hT]; exact kP2.alloc _
                have kQ3 : Blk T3 gQ 5 #[.int .u8 (97 + (z : Int))] := by rw [hT]; exact kQ2.alloc _
                show K _ ((T2).alloc (.cells #[.string ⟨#[]⟩, .string (lt a), .string (lt z)] 33))
                rw [← hT, ← hgS]
                clear hT hgS
                refine hK.out _ _ (⟨(d3.cell (p := ⟨b, bo + k * 2, none⟩) HVB.out).trans HY.out, (d3.cell (p := ⟨b, bo + k * 2 + 1, none⟩) HVB.out).trans HZ.out⟩) (fun hHeld => ?_)
                clear hK K
                try simp only [Act.put, List.setIfInBounds_toArray, List.set_cons_zero, List.set_cons_succ]
                refine ht_one 23 rfl (by kernel_rfl) (fun K hK => ?_)
                have hi3 : T3.ownsRow w.heap.size 30 10 (.slice A5 n c5) n (rowI x0 n) := own_below HR.out.i d3
                have hs3 : T3.ownsRow w.heap.size 33 3 (.slice A6 k c6) k (rowS x1 k) := own_below HR.out.s d3
                refine step_append_lies _ (by rfl) (.tmp 58) (.tmp 80) _ (by rfl) w.heap.size 33 j0 _ 3 48 Try.underlying25 hj0 hy0 hy1 hy2 rfl (by omega) (.slice A6 k c6) k (rowS x1 k) (by rfl) hs3 ⟨gS, 0, none⟩ 1 1 [.string ⟨#[]⟩, .string (lt a), .string (lt z)] (by rfl) (by rfl) (World.news_of_block (cs := #[.string ⟨#[]⟩, .string (lt a), .string (lt z)]) (t := 33) (fr := (0, 0)) kS3) (by simp [Value.oneCell']) (by omega) (by unfold maxLen; omega) (by omega) (by have := d3.size; omega) _ rfl ?_
                intro g6 cap6 T4 hown6 hgrow6 _ _
                have hb4 : Below w.heap.size w T4 := (HR.out.bel.trans (d3.mono hszV)).grown hgrow6 (by have := d3.size; omega) (fun j hj => (hs3.lt j hj).1)
                have hi4 : T4.ownsRow w.heap.size 30 10 (.slice A5 n c5) n (rowI x0 n) := hi3.kept hgrow6 (by
                  rcases hv : (Value.slice A5 n c5).ownBlock with _ | q5
                  · exact .inl rfl
                  · exact .inr (fun e => own_ne hi3 hs3 (by decide) q5 hv e.symm))
                have HN : Hid (RowsW w x0 x1 (.slice A5 n c5) (.slice (some ⟨g6, 0, none⟩) (k + 1) cap6) n (k + 1) T4) := Lib.hid ⟨hb4, hi4, by rw [rowS_succ, HED.out]; exact hown6⟩
                clear hgrow6 hown6
                refine hK.out _ _ (⟨(hb4.cell (p := ⟨b, bo + k * 2, none⟩) HBL.out).trans HY0.out, (hb4.cell (p := ⟨b, bo + k * 2 + 1, none⟩) HBL.out).trans HZ0.out⟩) (fun hHeld => ?_)
                clear hK K
                try simp only [Act.put, List.setIfInBounds_toArray, List.set_cons_zero, List.set_cons_succ]
                refine ht_done (by kernel_rfl) rfl ?_
                go_wp2_with fail
                go_roundw
                case rel => exact ⟨k + 1, by omega, by go_num, HN.out⟩
                case measure => simp [intOf]; omega
              · have hcv := conv_at1 (kQ2.cell 0 : T2.cell? ⟨gQ, 0, none⟩ = some (.int .u8 (97 + (z : Int))))
                go_simp
                refine hK.out _ _ (⟨(d2.cell (p := ⟨b, bo + k * 2, none⟩) HVB.out).trans HY.out, (d2.cell (p := ⟨b, bo + k * 2 + 1, none⟩) HVB.out).trans HZ.out⟩) (fun hHeld => ?_)
                clear hK K
                try simp only [Act.put, List.setIfInBounds_toArray, List.set_cons_zero, List.set_cons_succ]
                refine ht_one 10 rfl (by kernel_rfl) (fun K hK => ?_)
                have hcv := conv_at1 (kP2.cell 0 : T2.cell? ⟨gP, 0, none⟩ = some (.int .u8 (97 + (a : Int))))
                go_simp
                refine hK.out _ _ (⟨(d2.cell (p := ⟨b, bo + k * 2, none⟩) HVB.out).trans HY.out, (d2.cell (p := ⟨b, bo + k * 2 + 1, none⟩) HVB.out).trans HZ.out⟩) (fun hHeld => ?_)
                clear hK K
                try simp only [Act.put, List.setIfInBounds_toArray, List.set_cons_zero, List.set_cons_succ]
                refine ht_take 21 (v := ?vc_20) rfl (by kernel_rfl) (fun _ _ _ h => h) (Or.inl ⟨by rfl, ?hc_20⟩) hHeld ?rc_20
                case hc_20 => ((intro U hSw; have y3 := hSw.1; have y4 := hSw.2; go_simp; (try simp only [hf1, hf2]); (try simp only [hw1, hw2, hw3, hw4])); (try (with_reducible rfl)))
                try simp only [Act.put, List.setIfInBounds_toArray, List.set_cons_zero, List.set_cons_succ]
                refine ht_one 22 rfl (by kernel_rfl) (fun K hK => ?_)
                go_simp
                obtain ⟨gS, hgS⟩ : ∃ g, g = T2.heap.size := ⟨_, rfl⟩
                obtain ⟨T3, hT⟩ : ∃ T, T = (T2).alloc (.cells #[.string ⟨#[]⟩, .string (lt a), .string (lt z)] 33) := ⟨_, rfl⟩
                have d3 : Below V.heap.size V T3 := by rw [hT]; exact d2.alloc d2.size _
                have kS3 : Blk T3 gS 33 #[.string ⟨#[]⟩, .string (lt a), .string (lt z)] := by rw [hT, hgS]; exact Blk.new _ _ _
                have kP3 : Blk T3 gP 5 #[.int .u8 (97 + (a : Int))] := by rw [hT]; exact kP2.alloc _
                have kQ3 : Blk T3 gQ 5 #[.int .u8 (97 + (z : Int))] := by rw [hT]; exact kQ2.alloc _
                show K _ ((T2).alloc (.cells #[.string ⟨#[]⟩, .string (lt a), .string (lt z)] 33))
                rw [← hT, ← hgS]
                clear hT hgS
                refine hK.out _ _ (⟨(d3.cell (p := ⟨b, bo + k * 2, none⟩) HVB.out).trans HY.out, (d3.cell (p := ⟨b, bo + k * 2 + 1, none⟩) HVB.out).trans HZ.out⟩) (fun hHeld => ?_)
                clear hK K
                try simp only [Act.put, List.setIfInBounds_toArray, List.set_cons_zero, List.set_cons_succ]
                refine ht_one 23 rfl (by kernel_rfl) (fun K hK => ?_)
                have hi3 : T3.ownsRow w.heap.size 30 10 (.slice A5 n c5) n (rowI x0 n) := own_below HR.out.i d3
                have hs3 : T3.ownsRow w.heap.size 33 3 (.slice A6 k c6) k (rowS x1 k) := own_below HR.out.s d3
                refine step_append_lies _ (by rfl) (.tmp 58) (.tmp 80) _ (by rfl) w.heap.size 33 j0 _ 3 48 Try.underlying25 hj0 hy0 hy1 hy2 rfl (by omega) (.slice A6 k c6) k (rowS x1 k) (by rfl) hs3 ⟨gS, 0, none⟩ 1 1 [.string ⟨#[]⟩, .string (lt a), .string (lt z)] (by rfl) (by rfl) (World.news_of_block (cs := #[.string ⟨#[]⟩, .string (lt a), .string (lt z)]) (t := 33) (fr := (0, 0)) kS3) (by simp [Value.oneCell']) (by omega) (by unfold maxLen; omega) (by omega) (by have := d3.size; omega) _ rfl ?_
                intro g6 cap6 T4 hown6 hgrow6 _ _
                have hb4 : Below w.heap.size w T4 := (HR.out.bel.trans (d3.mono hszV)).grown hgrow6 (by have := d3.size; omega) (fun j hj => (hs3.lt j hj).1)
                have hi4 : T4.ownsRow w.heap.size 30 10 (.slice A5 n c5) n (rowI x0 n) := hi3.kept hgrow6 (by
                  rcases hv : (Value.slice A5 n c5).ownBlock with _ | q5
                  · exact .inl rfl
                  · exact .inr (fun e => own_ne hi3 hs3 (by decide) q5 hv e.symm))
                have HN : Hid (RowsW w x0 x1 (.slice A5 n c5) (.slice (some ⟨g6, 0, none⟩) (k + 1) cap6) n (k + 1) T4) := Lib.hid ⟨hb4, hi4, by rw [rowS_succ, HED.out]; exact hown6⟩
                clear hgrow6 hown6
                refine hK.out _ _ (⟨(hb4.cell (p := ⟨b, bo + k * 2, none⟩) HBL.out).trans HY0.out, (hb4.cell (p := ⟨b, bo + k * 2 + 1, none⟩) HBL.out).trans HZ0.out⟩) (fun hHeld => ?_)
                clear hK K
                try simp only [Act.put, List.setIfInBounds_toArray, List.set_cons_zero, List.set_cons_succ]
                refine ht_done (by kernel_rfl) rfl ?_
                go_wp2_with fail
                go_roundw
                case rel => exact ⟨k + 1, by omega, by go_num, HN.out⟩
                case measure => simp [intOf]; omega
          · go_simp
            obtain ⟨gQ, hgQ⟩ : ∃ g, g = V.heap.size := ⟨_, rfl⟩
            obtain ⟨T1, hT⟩ : ∃ T, T = (V.drew).alloc (.cells #[.int .u8 (97 + (z : Int))] 5) := ⟨_, rfl⟩
            have d1 : Below V.heap.size V T1 := by rw [hT]; exact d0.alloc d0.size _
            have kQ1 : Blk T1 gQ 5 #[.int .u8 (97 + (z : Int))] := by rw [hT, hgQ]; exact Blk.new _ _ _
            show K _ ((V.drew).alloc (.cells #[.int .u8 (97 + (z : Int))] 5))
            rw [← hT, ← hgQ]
            clear hT hgQ
            refine hK.out _ _ (⟨(d1.cell (p := ⟨b, bo + k * 2, none⟩) HVB.out).trans HY.out, (d1.cell (p := ⟨b, bo + k * 2 + 1, none⟩) HVB.out).trans HZ.out⟩) (fun hHeld => ?_)
            clear hK K
            try simp only [Act.put, List.setIfInBounds_toArray, List.set_cons_zero, List.set_cons_succ]
            refine wpHT_all [9, 20] (by kernel_rfl) ?_
            refine ht_cons (i := 9) rfl (fun K hK => ?_) (ht_cons (i := 20) rfl (fun K hK => ?_) (allHT.nil))
            · go_simp
              obtain ⟨gP, hgP⟩ : ∃ g, g = T1.heap.size := ⟨_, rfl⟩
              obtain ⟨T2, hT⟩ : ∃ T, T = (T1).alloc (.cells #[.int .u8 (97 + (a : Int))] 5) := ⟨_, rfl⟩
              have d2 : Below V.heap.size V T2 := by rw [hT]; exact d1.alloc d1.size _
              have kP2 : Blk T2 gP 5 #[.int .u8 (97 + (a : Int))] := by rw [hT, hgP]; exact Blk.new _ _ _
              have kQ2 : Blk T2 gQ 5 #[.int .u8 (97 + (z : Int))] := by rw [hT]; exact kQ1.alloc _
              show K _ ((T1).alloc (.cells #[.int .u8 (97 + (a : Int))] 5))
              rw [← hT, ← hgP]
              clear hT hgP
              refine hK.out _ _ (⟨(d2.cell (p := ⟨b, bo + k * 2, none⟩) HVB.out).trans HY.out, (d2.cell (p := ⟨b, bo + k * 2 + 1, none⟩) HVB.out).trans HZ.out⟩) (fun hHeld => ?_)
              clear hK K
              try simp only [Act.put, List.setIfInBounds_toArray, List.set_cons_zero, List.set_cons_succ]
              refine wpHT_all [10, 20] (by kernel_rfl) ?_
              refine ht_cons (i := 10) rfl (fun K hK => ?_) (ht_cons (i := 20) rfl (fun K hK => ?_) (allHT.nil))
              · have hcv := conv_at1 (kP2.cell 0 : T2.cell? ⟨gP, 0, none⟩ = some (.int .u8 (97 + (a : Int))))
                go_simp
                refine hK.out _ _ (⟨(d2.cell (p := ⟨b, bo + k * 2, none⟩) HVB.out).trans HY.out, (d2.cell (p := ⟨b, bo + k * 2 + 1, none⟩) HVB.out).trans HZ.out⟩) (fun hHeld => ?_)
                clear hK K
                try simp only [Act.put, List.setIfInBounds_toArray, List.set_cons_zero, List.set_cons_succ]
                refine ht_one 20 rfl (by kernel_rfl) (fun K hK => ?_)
                have hcv := conv_at1 (kQ2.cell 0 : T2.cell? ⟨gQ, 0, none⟩ = some (.int .u8 (97 + (z : Int))))
                go_simp
                refine hK.out _ _ (⟨(d2.cell (p := ⟨b, bo + k * 2, none⟩) HVB.out).trans HY.out, (d2.cell (p := ⟨b, bo + k * 2 + 1, none⟩) HVB.out).trans HZ.out⟩) (fun hHeld => ?_)
                clear hK K
                try simp only [Act.put, List.setIfInBounds_toArray, List.set_cons_zero, List.set_cons_succ]
                refine ht_take 21 (v := ?vc_21) rfl (by kernel_rfl) (fun _ _ _ h => h) (Or.inl ⟨by rfl, ?hc_21⟩) hHeld ?rc_21
                case hc_21 => ((intro U hSw; have y3 := hSw.1; have y4 := hSw.2; go_simp; (try simp only [hf1, hf2]); (try simp only [hw1, hw2, hw3, hw4])); (try (with_reducible rfl)))
                try simp only [Act.put, List.setIfInBounds_toArray, List.set_cons_zero, List.set_cons_succ]
                refine ht_one 22 rfl (by kernel_rfl) (fun K hK => ?_)
                go_simp
                obtain ⟨gS, hgS⟩ : ∃ g, g = T2.heap.size := ⟨_, rfl⟩
                obtain ⟨T3, hT⟩ : ∃ T, T = (T2).alloc (.cells #[.string ⟨#[]⟩, .string (lt a), .string (lt z)] 33) := ⟨_, rfl⟩
                have d3 : Below V.heap.size V T3 := by rw [hT]; exact d2.alloc d2.size _
                have kS3 : Blk T3 gS 33 #[.string ⟨#[]⟩, .string (lt a), .string (lt z)] := by rw [hT, hgS]; exact Blk.new _ _ _
                have kP3 : Blk T3 gP 5 #[.int .u8 (97 + (a : Int))] := by rw [hT]; exact kP2.alloc _
                have kQ3 : Blk T3 gQ 5 #[.int .u8 (97 + (z : Int))] := by rw [hT]; exact kQ2.alloc _
                show K _ ((T2).alloc (.cells #[.string ⟨#[]⟩, .string (lt a), .string (lt z)] 33))
                rw [← hT, ← hgS]
                clear hT hgS
                refine hK.out _ _ (⟨(d3.cell (p := ⟨b, bo + k * 2, none⟩) HVB.out).trans HY.out, (d3.cell (p := ⟨b, bo + k * 2 + 1, none⟩) HVB.out).trans HZ.out⟩) (fun hHeld => ?_)
                clear hK K
                try simp only [Act.put, List.setIfInBounds_toArray, List.set_cons_zero, List.set_cons_succ]
                refine ht_one 23 rfl (by kernel_rfl) (fun K hK => ?_)
                have hi3 : T3.ownsRow w.heap.size 30 10 (.slice A5 n c5) n (rowI x0 n) := own_below HR.out.i d3
                have hs3 : T3.ownsRow w.heap.size 33 3 (.slice A6 k c6) k (rowS x1 k) := own_below HR.out.s d3
                refine step_append_lies _ (by rfl) (.tmp 58) (.tmp 80) _ (by rfl) w.heap.size 33 j0 _ 3 48 Try.underlying25 hj0 hy0 hy1 hy2 rfl (by omega) (.slice A6 k c6) k (rowS x1 k) (by rfl) hs3 ⟨gS, 0, none⟩ 1 1 [.string ⟨#[]⟩, .string (lt a), .string (lt z)] (by rfl) (by rfl) (World.news_of_block (cs := #[.string ⟨#[]⟩, .string (lt a), .string (lt z)]) (t := 33) (fr := (0, 0)) kS3) (by simp [Value.oneCell']) (by omega) (by unfold maxLen; omega) (by omega) (by have := d3.size; omega) _ rfl ?_
                intro g6 cap6 T4 hown6 hgrow6 _ _
                have hb4 : Below w.heap.size w T4 := (HR.out.bel.trans (d3.mono hszV)).grown hgrow6 (by have := d3.size; omega) (fun j hj => (hs3.lt j hj).1)
                have hi4 : T4.ownsRow w.heap.size 30 10 (.slice A5 n c5) n (rowI x0 n) := hi3.kept hgrow6 (by
                  rcases hv : (Value.slice A5 n c5).ownBlock with _ | q5
                  · exact .inl rfl
                  · exact .inr (fun e => own_ne hi3 hs3 (by decide) q5 hv e.symm))
                have HN : Hid (RowsW w x0 x1 (.slice A5 n c5) (.slice (some ⟨g6, 0, none⟩) (k + 1) cap6) n (k + 1) T4) := Lib.hid ⟨hb4, hi4, by rw [rowS_succ, HED.out]; exact hown6⟩
                clear hgrow6 hown6
                refine hK.out _ _ (⟨(hb4.cell (p := ⟨b, bo + k * 2, none⟩) HBL.out).trans HY0.out, (hb4.cell (p := ⟨b, bo + k * 2 + 1, none⟩) HBL.out).trans HZ0.out⟩) (fun hHeld => ?_)
                clear hK K
                try simp only [Act.put, List.setIfInBounds_toArray, List.set_cons_zero, List.set_cons_succ]
                refine ht_done (by kernel_rfl) rfl ?_
                go_wp2_with fail
                go_roundw
                case rel => exact ⟨k + 1, by omega, by go_num, HN.out⟩
                case measure => simp [intOf]; omega
              · have hcv := conv_at1 (kQ2.cell 0 : T2.cell? ⟨gQ, 0, none⟩ = some (.int .u8 (97 + (z : Int))))
                go_simp
                refine hK.out _ _ (⟨(d2.cell (p := ⟨b, bo + k * 2, none⟩) HVB.out).trans HY.out, (d2.cell (p := ⟨b, bo + k * 2 + 1, none⟩) HVB.out).trans HZ.out⟩) (fun hHeld => ?_)
                clear hK K
                try simp only [Act.put, List.setIfInBounds_toArray, List.set_cons_zero, List.set_cons_succ]
                refine ht_one 10 rfl (by kernel_rfl) (fun K hK => ?_)
                have hcv := conv_at1 (kP2.cell 0 : T2.cell? ⟨gP, 0, none⟩ = some (.int .u8 (97 + (a : Int))))
                go_simp
                refine hK.out _ _ (⟨(d2.cell (p := ⟨b, bo + k * 2, none⟩) HVB.out).trans HY.out, (d2.cell (p := ⟨b, bo + k * 2 + 1, none⟩) HVB.out).trans HZ.out⟩) (fun hHeld => ?_)
                clear hK K
                try simp only [Act.put, List.setIfInBounds_toArray, List.set_cons_zero, List.set_cons_succ]
                refine ht_take 21 (v := ?vc_22) rfl (by kernel_rfl) (fun _ _ _ h => h) (Or.inl ⟨by rfl, ?hc_22⟩) hHeld ?rc_22
                case hc_22 => ((intro U hSw; have y3 := hSw.1; have y4 := hSw.2; go_simp; (try simp only [hf1, hf2]); (try simp only [hw1, hw2, hw3, hw4])); (try (with_reducible rfl)))
                try simp only [Act.put, List.setIfInBounds_toArray, List.set_cons_zero, List.set_cons_succ]
                refine ht_one 22 rfl (by kernel_rfl) (fun K hK => ?_)
                go_simp
                obtain ⟨gS, hgS⟩ : ∃ g, g = T2.heap.size := ⟨_, rfl⟩
                obtain ⟨T3, hT⟩ : ∃ T, T = (T2).alloc (.cells #[.string ⟨#[]⟩, .string (lt a), .string (lt z)] 33) := ⟨_, rfl⟩
                have d3 : Below V.heap.size V T3 := by rw [hT]; exact d2.alloc d2.size _
                have kS3 : Blk T3 gS 33 #[.string ⟨#[]⟩, .string (lt a), .string (lt z)] := by rw [hT, hgS]; exact Blk.new _ _ _
                have kP3 : Blk T3 gP 5 #[.int .u8 (97 + (a : Int))] := by rw [hT]; exact kP2.alloc _
                have kQ3 : Blk T3 gQ 5 #[.int .u8 (97 + (z : Int))] := by rw [hT]; exact kQ2.alloc _
                show K _ ((T2).alloc (.cells #[.string ⟨#[]⟩, .string (lt a), .string (lt z)] 33))
                rw [← hT, ← hgS]
                clear hT hgS
                refine hK.out _ _ (⟨(d3.cell (p := ⟨b, bo + k * 2, none⟩) HVB.out).trans HY.out, (d3.cell (p := ⟨b, bo + k * 2 + 1, none⟩) HVB.out).trans HZ.out⟩) (fun hHeld => ?_)
                clear hK K
                try simp only [Act.put, List.setIfInBounds_toArray, List.set_cons_zero, List.set_cons_succ]
                refine ht_one 23 rfl (by kernel_rfl) (fun K hK => ?_)
                have hi3 : T3.ownsRow w.heap.size 30 10 (.slice A5 n c5) n (rowI x0 n) := own_below HR.out.i d3
                have hs3 : T3.ownsRow w.heap.size 33 3 (.slice A6 k c6) k (rowS x1 k) := own_below HR.out.s d3
                refine step_append_lies _ (by rfl) (.tmp 58) (.tmp 80) _ (by rfl) w.heap.size 33 j0 _ 3 48 Try.underlying25 hj0 hy0 hy1 hy2 rfl (by omega) (.slice A6 k c6) k (rowS x1 k) (by rfl) hs3 ⟨gS, 0, none⟩ 1 1 [.string ⟨#[]⟩, .string (lt a), .string (lt z)] (by rfl) (by rfl) (World.news_of_block (cs := #[.string ⟨#[]⟩, .string (lt a), .string (lt z)]) (t := 33) (fr := (0, 0)) kS3) (by simp [Value.oneCell']) (by omega) (by unfold maxLen; omega) (by omega) (by have := d3.size; omega) _ rfl ?_
                intro g6 cap6 T4 hown6 hgrow6 _ _
                have hb4 : Below w.heap.size w T4 := (HR.out.bel.trans (d3.mono hszV)).grown hgrow6 (by have := d3.size; omega) (fun j hj => (hs3.lt j hj).1)
                have hi4 : T4.ownsRow w.heap.size 30 10 (.slice A5 n c5) n (rowI x0 n) := hi3.kept hgrow6 (by
                  rcases hv : (Value.slice A5 n c5).ownBlock with _ | q5
                  · exact .inl rfl
                  · exact .inr (fun e => own_ne hi3 hs3 (by decide) q5 hv e.symm))
                have HN : Hid (RowsW w x0 x1 (.slice A5 n c5) (.slice (some ⟨g6, 0, none⟩) (k + 1) cap6) n (k + 1) T4) := Lib.hid ⟨hb4, hi4, by rw [rowS_succ, HED.out]; exact hown6⟩
                clear hgrow6 hown6
                refine hK.out _ _ (⟨(hb4.cell (p := ⟨b, bo + k * 2, none⟩) HBL.out).trans HY0.out, (hb4.cell (p := ⟨b, bo + k * 2 + 1, none⟩) HBL.out).trans HZ0.out⟩) (fun hHeld => ?_)
                clear hK K
                try simp only [Act.put, List.setIfInBounds_toArray, List.set_cons_zero, List.set_cons_succ]
                refine ht_done (by kernel_rfl) rfl ?_
                go_wp2_with fail
                go_roundw
                case rel => exact ⟨k + 1, by omega, by go_num, HN.out⟩
                case measure => simp [intOf]; omega
            · have hcv := conv_at1 (kQ1.cell 0 : T1.cell? ⟨gQ, 0, none⟩ = some (.int .u8 (97 + (z : Int))))
              go_simp
              refine hK.out _ _ (⟨(d1.cell (p := ⟨b, bo + k * 2, none⟩) HVB.out).trans HY.out, (d1.cell (p := ⟨b, bo + k * 2 + 1, none⟩) HVB.out).trans HZ.out⟩) (fun hHeld => ?_)
              clear hK K
              try simp only [Act.put, List.setIfInBounds_toArray, List.set_cons_zero, List.set_cons_succ]
              refine ht_one 9 rfl (by kernel_rfl) (fun K hK => ?_)
              go_simp
              obtain ⟨gP, hgP⟩ : ∃ g, g = T1.heap.size := ⟨_, rfl⟩
              obtain ⟨T2, hT⟩ : ∃ T, T = (T1).alloc (.cells #[.int .u8 (97 + (a : Int))] 5) := ⟨_, rfl⟩
              have d2 : Below V.heap.size V T2 := by rw [hT]; exact d1.alloc d1.size _
              have kP2 : Blk T2 gP 5 #[.int .u8 (97 + (a : Int))] := by rw [hT, hgP]; exact Blk.new _ _ _
              have kQ2 : Blk T2 gQ 5 #[.int .u8 (97 + (z : Int))] := by rw [hT]; exact kQ1.alloc _
              show K _ ((T1).alloc (.cells #[.int .u8 (97 + (a : Int))] 5))
              rw [← hT, ← hgP]
              clear hT hgP
              refine hK.out _ _ (⟨(d2.cell (p := ⟨b, bo + k * 2, none⟩) HVB.out).trans HY.out, (d2.cell (p := ⟨b, bo + k * 2 + 1, none⟩) HVB.out).trans HZ.out⟩) (fun hHeld => ?_)
              clear hK K
              try simp only [Act.put, List.setIfInBounds_toArray, List.set_cons_zero, List.set_cons_succ]
              refine ht_one 10 rfl (by kernel_rfl) (fun K hK => ?_)
              have hcv := conv_at1 (kP2.cell 0 : T2.cell? ⟨gP, 0, none⟩ = some (.int .u8 (97 + (a : Int))))
              go_simp
              refine hK.out _ _ (⟨(d2.cell (p := ⟨b, bo + k * 2, none⟩) HVB.out).trans HY.out, (d2.cell (p := ⟨b, bo + k * 2 + 1, none⟩) HVB.out).trans HZ.out⟩) (fun hHeld => ?_)
              clear hK K
              try simp only [Act.put, List.setIfInBounds_toArray, List.set_cons_zero, List.set_cons_succ]
              refine ht_take 21 (v := ?vc_23) rfl (by kernel_rfl) (fun _ _ _ h => h) (Or.inl ⟨by rfl, ?hc_23⟩) hHeld ?rc_23
              case hc_23 => ((intro U hSw; have y3 := hSw.1; have y4 := hSw.2; go_simp; (try simp only [hf1, hf2]); (try simp only [hw1, hw2, hw3, hw4])); (try (with_reducible rfl)))
              try simp only [Act.put, List.setIfInBounds_toArray, List.set_cons_zero, List.set_cons_succ]
              refine ht_one 22 rfl (by kernel_rfl) (fun K hK => ?_)
              go_simp
              obtain ⟨gS, hgS⟩ : ∃ g, g = T2.heap.size := ⟨_, rfl⟩
              obtain ⟨T3, hT⟩ : ∃ T, T = (T2).alloc (.cells #[.string ⟨#[]⟩, .string (lt a), .string (lt z)] 33) := ⟨_, rfl⟩
              have d3 : Below V.heap.size V T3 := by rw [hT]; exact d2.alloc d2.size _
              have kS3 : Blk T3 gS 33 #[.string ⟨#[]⟩, .string (lt a), .string (lt z)] := by rw [hT, hgS]; exact Blk.new _ _ _
              have kP3 : Blk T3 gP 5 #[.int .u8 (97 + (a : Int))] := by rw [hT]; exact kP2.alloc _
              have kQ3 : Blk T3 gQ 5 #[.int .u8 (97 + (z : Int))] := by rw [hT]; exact kQ2.alloc _
              show K _ ((T2).alloc (.cells #[.string ⟨#[]⟩, .string (lt a), .string (lt z)] 33))
              rw [← hT, ← hgS]
              clear hT hgS
              refine hK.out _ _ (⟨(d3.cell (p := ⟨b, bo + k * 2, none⟩) HVB.out).trans HY.out, (d3.cell (p := ⟨b, bo + k * 2 + 1, none⟩) HVB.out).trans HZ.out⟩) (fun hHeld => ?_)
              clear hK K
              try simp only [Act.put, List.setIfInBounds_toArray, List.set_cons_zero, List.set_cons_succ]
              refine ht_one 23 rfl (by kernel_rfl) (fun K hK => ?_)
              have hi3 : T3.ownsRow w.heap.size 30 10 (.slice A5 n c5) n (rowI x0 n) := own_below HR.out.i d3
              have hs3 : T3.ownsRow w.heap.size 33 3 (.slice A6 k c6) k (rowS x1 k) := own_below HR.out.s d3
              refine step_append_lies _ (by rfl) (.tmp 58) (.tmp 80) _ (by rfl) w.heap.size 33 j0 _ 3 48 Try.underlying25 hj0 hy0 hy1 hy2 rfl (by omega) (.slice A6 k c6) k (rowS x1 k) (by rfl) hs3 ⟨gS, 0, none⟩ 1 1 [.string ⟨#[]⟩, .string (lt a), .string (lt z)] (by rfl) (by rfl) (World.news_of_block (cs := #[.string ⟨#[]⟩, .string (lt a), .string (lt z)]) (t := 33) (fr := (0, 0)) kS3) (by simp [Value.oneCell']) (by omega) (by unfold maxLen; omega) (by omega) (by have := d3.size; omega) _ rfl ?_
              intro g6 cap6 T4 hown6 hgrow6 _ _
              have hb4 : Below w.heap.size w T4 := (HR.out.bel.trans (d3.mono hszV)).grown hgrow6 (by have := d3.size; omega) (fun j hj => (hs3.lt j hj).1)
              have hi4 : T4.ownsRow w.heap.size 30 10 (.slice A5 n c5) n (rowI x0 n) := hi3.kept hgrow6 (by
                rcases hv : (Value.slice A5 n c5).ownBlock with _ | q5
                · exact .inl rfl
                · exact .inr (fun e => own_ne hi3 hs3 (by decide) q5 hv e.symm))
              have HN : Hid (RowsW w x0 x1 (.slice A5 n c5) (.slice (some ⟨g6, 0, none⟩) (k + 1) cap6) n (k + 1) T4) := Lib.hid ⟨hb4, hi4, by rw [rowS_succ, HED.out]; exact hown6⟩
              clear hgrow6 hown6
              refine hK.out _ _ (⟨(hb4.cell (p := ⟨b, bo + k * 2, none⟩) HBL.out).trans HY0.out, (hb4.cell (p := ⟨b, bo + k * 2 + 1, none⟩) HBL.out).trans HZ0.out⟩) (fun hHeld => ?_)
              clear hK K
              try simp only [Act.put, List.setIfInBounds_toArray, List.set_cons_zero, List.set_cons_succ]
              refine ht_done (by kernel_rfl) rfl ?_
              go_wp2_with fail
              go_roundw
              case rel => exact ⟨k + 1, by omega, by go_num, HN.out⟩
              case measure => simp [intOf]; omega
        · have hnk : ¬ ((k : Int) < (x1.length : Int)) ∨ ¬ ((k : Int) < 20) := by have := HME.out; omega
          have hkn : k = m := by omega
          subst hkn
          clear hR hlt
          by_cases hnk2 : (k : Int) < (x1.length : Int)
          · have hnk3 : ¬ ((k : Int) < 20) := by omega
            go_wp2_with fail
            go_meet
            case rel => exact HR.out
          · go_wp2_with fail
            go_meet
            case rel => exact HR.out
    case rest =>
      obtain ⟨A6, c6, rfl, _, _⟩ := own_slice hcut.s
      have HR2 := Lib.hid hcut
      clear hcut HR1
      obtain ⟨V2, rfl⟩ : ∃ V, V = wc := ⟨_, rfl⟩
      have hmk : ∀ U : World, (Instr.makeSlice 34 (.int .i64 16) (.int .i64 16)).run Try.prog U = .ok (.slice (some ⟨U.heap.size, 0, none⟩) 16 16) (U.alloc (.cells ((rSeen x0 n 0).map Value.bool).toArray 4)) := fun U => by
        rw [rSeen_zero]
        kernel_rfl
      have HMK := Lib.hid hmk
      obtain ⟨d, hd⟩ : ∃ d, d = V2.heap.size := ⟨_, rfl⟩
      obtain ⟨W3, hW3⟩ : ∃ U, U = V2.alloc (.cells ((rSeen x0 n 0).map Value.bool).toArray 4) := ⟨_, rfl⟩
      have hR3 : RW V2 d (rSeen x0 n 0) W3 := by rw [hW3, hd]; exact ⟨(Below.refl _ _).alloc (Nat.le_refl _) _, Nat.le_refl _, Blk.new _ _ _⟩
      have HR3 := Lib.hid hR3
      have HW3 := Lib.hid hW3.symm
      have HD := Lib.hid hd.symm
      have hwV := HR2.out.bel.size
      clear hmk hd hW3 hR3
      go_upto_region 10 with fail
      have hmk1 := HMK.out V2
      go_upto_region 11 with fail
      rw [HW3.out, HD.out]
      clear hmk1
      go_upto_block 4 with fail
      go_cut [] (fun wx => RW V2 d (rSeen x0 n n) wx)
      case first =>
        go_wp2_with fail
        go_loopw [10] (fun iv wr => ∃ k : Nat, k ≤ n ∧ iv = .int .i64 k ∧ RW V2 d (rSeen x0 n k) wr) (fun iv _ => n - (intOf iv).toNat)
        case atStart => exact ⟨0, Nat.zero_le _, rfl, HR3.out⟩
        case round =>
          obtain ⟨k, hk, rfl, hR⟩ := hrel
          have HR := Lib.hid hR
          have hdl := hR.db.lt
          by_cases hlt : k < n
          · obtain ⟨b, rfl, hbl, hc0, _⟩ := HR2.out.itemAt k hlt
            have y0 := (hR.bel.cell (p := ⟨b, k * 10, none⟩) hbl).trans hc0
            have hst := rSeen_succ (ks := x0) k hlt hn12
            have hks : isSt (rItem (rKind (x0.getD k 0)) k) = (rKind (x0.getD k 0) == 1) := rfl
            rw [hks] at hst
            obtain ⟨kd, hkd⟩ : ∃ z, z = rKind (x0.getD k 0) := ⟨_, rfl⟩
            rw [← hkd] at hst y0
            obtain ⟨bb, hbb⟩ : ∃ bb, (rSeen x0 n k)[k]? = some bb := ⟨_, rSeen_at k k (by omega)⟩
            have z0 := hR.cell hbb
            have zf := hR.db.frozen k
            have hltI : (k : Int) < (n : Int) := by omega
            have hk16 : (k : Int) < 16 := by omega
            have Hst := Lib.hid hst
            clear hR hc0 hst hks hkd hbb
            go_wp2_with fail
            go_roundw
            case rel => exact ⟨k + 1, by omega, by go_num, by rw [Hst.out]; exact HR.out.setB k _⟩
            case measure => simp [intOf]; omega
          · have hkn : k = n := by omega
            have hltI : ¬ (k : Int) < (n : Int) := by omega
            clear hR
            go_wp2_with fail
            go_meet
            case rel => rw [hkn] at HR; exact HR.out
      case rest =>
        have HR4 := Lib.hid hcut
        clear hcut HR3
        obtain ⟨sn, hsn⟩ : ∃ z, z = rSeen x0 n n := ⟨_, rfl⟩
        rw [← hsn] at HR4
        have hsl : sn.length = 16 := by rw [hsn]; exact rSeen_len _
        have HSN := Lib.hid hsn
        obtain ⟨E, hE⟩ : ∃ z, z = rEdges x1 m := ⟨_, rfl⟩
        have hEl : E.length = m := by rw [hE]; exact rEdges_len _ _
        have HE := Lib.hid hE
        clear hsn hE
        go_upto_block 6 with fail
        go_cut [] (fun wx => RW V2 d (rRounds n E sn 16) wx)
        case first =>
          go_wp2_with fail
          go_loopw [11] (fun rv wr => ∃ r : Nat, r ≤ 16 ∧ rv = .int .i64 r ∧ RW V2 d (rRounds n E sn r) wr) (fun rv _ => 16 - (intOf rv).toNat)
          case atStart => exact ⟨0, Nat.zero_le _, rfl, HR4.out⟩
          case round =>
            obtain ⟨r, hr, rfl, hR⟩ := hrel
            have HRr := Lib.hid hR
            clear hR
            by_cases hr16 : r < 16
            · have hr16I : (r : Int) < 16 := by omega
              obtain ⟨sr, hsr⟩ : ∃ z, z = rRounds n E sn r := ⟨_, rfl⟩
              have hrs : rRounds n E sn (r + 1) = E.foldl (rStep n) sr := by rw [hsr]; rfl
              have hsrl : sr.length = 16 := by rw [hsr, rRounds_len]; exact hsl
              rw [← hsr] at HRr
              have HRS := Lib.hid hrs
              clear hsr hrs
              go_wp2_with fail
              go_loopw [12] (fun jv wr => ∃ j : Nat, j ≤ m ∧ jv = .int .i64 j ∧ RW V2 d ((E.take j).foldl (rStep n) sr) wr) (fun jv _ => m - (intOf jv).toNat)
              case atStart => exact ⟨0, Nat.zero_le _, rfl, HRr.out⟩
              case round =>
                clear HRr
                obtain ⟨j, hj, rfl, hR⟩ := hrel
                have HR := Lib.hid hR
                have hdl := hR.db.lt
                by_cases hlt : j < m
                · obtain ⟨b, rfl, hbl, hc1, hc2⟩ := HR2.out.seqAt j hlt
                  have y1 := (hR.bel.cell (p := ⟨b, j * 3 + 1, none⟩) hbl).trans hc1
                  have y2 := (hR.bel.cell (p := ⟨b, j * 3 + 2, none⟩) hbl).trans hc2
                  obtain ⟨e, he⟩ : ∃ e, e = rEdge x1 j := ⟨_, rfl⟩
                  rw [← he] at y1 y2
                  obtain ⟨a, z⟩ := e
                  have hef : E[j]'(by omega) = (a, z) := by
                    have : E[j]'(by omega) = (rEdges x1 m)[j]'(by rw [rEdges_len]; exact hlt) := by simp only [HE.out]
                    rw [this, rEdges_at, he]
                  have hst : (E.take (j + 1)).foldl (rStep n) sr = rStep n ((E.take j).foldl (rStep n) sr) (a, z) := by
                    rw [List.take_succ_eq_append_getElem (by omega), List.foldl_append, hef]
                    rfl
                  obtain ⟨sj, hsj⟩ : ∃ q, q = (E.take j).foldl (rStep n) sr := ⟨_, rfl⟩
                  rw [← hsj] at hst HR
                  have hsjl : sj.length = 16 := by rw [hsj, rFold_len]; exact hsrl
                  have ha16 : a < 16 := by have h := rNum_lt (x1.getD j (0, 0)).1; have : a = rNum (x1.getD j (0, 0)).1 := congrArg Prod.fst he; omega
                  have hz16 : z < 16 := by have h := rNum_lt (x1.getD j (0, 0)).2; have : z = rNum (x1.getD j (0, 0)).2 := congrArg Prod.snd he; omega
                  have hltI : (j : Int) < (m : Int) := by omega
                  have Hst := Lib.hid hst
                  simp only at y1 y2
                  clear hR hc1 hc2 he hef hst hsj
                  have hi1 := fun U => lt_index U a ha16
                  have hi2 := fun U => lt_index U z hz16
                  have hw1 : IntKind.u8.wrap (97 + (a : Int) - 97) = (a : Int) := by rw [IntKind.wrap_u8]; omega
                  have hw2 : IntKind.u8.wrap (97 + (z : Int) - 97) = (z : Int) := by rw [IntKind.wrap_u8]; omega
                  go_upto_region 21 with fail
                  go_quiet (fail)
                  have HRq := Lib.hid (HR.out.drewN nq)
                  obtain ⟨bb, hbb⟩ : ∃ bb, sj[a]? = some bb := ⟨_, List.getElem?_eq_getElem (by omega)⟩
                  have yS := HRq.out.cell hbb
                  obtain ⟨b2, hb2⟩ : ∃ bb, sj[z]? = some bb := ⟨_, List.getElem?_eq_getElem (by omega)⟩
                  have yZ := HRq.out.cell hb2
                  have yF := HRq.out.db.frozen z
                  have hdl4 := HRq.out.db.lt
                  obtain ⟨w4, hw4⟩ : ∃ U, U = wr.drewN nq := ⟨_, rfl⟩
                  rw [← hw4] at HRq yS yZ yF hdl4
                  rw [← hw4]
                  have ha16I : (a : Int) < 16 := by omega
                  have hz16I : (z : Int) < 16 := by omega
                  have ha0I : (0 : Int) ≤ (a : Int) := by omega
                  have hz0I : (0 : Int) ≤ (z : Int) := by omega
                  clear hw4 hi1 hi2 hw1 hw2 y1 y2 hb2
                  by_cases ca : a < n
                  · have caI : (a : Int) < (n : Int) := by omega
                    by_cases cz : z < n
                    · have czI : (z : Int) < (n : Int) := by omega
                      cases bb with
                      | true =>
                        have hse : rStep n sj (a, z) = sj.set z true := by unfold rStep; rw [if_pos ⟨ca, cz, hbb⟩]
                        have HSE := Lib.hid hse
                        clear hse hbb
                        go_wp2_with fail
                        go_roundw
                        case rel => exact ⟨j + 1, by omega, by go_num, by rw [Hst.out, HSE.out]; exact HRq.out.set_ z⟩
                        case measure => simp [intOf]; omega
                      | false =>
                        have hse : rStep n sj (a, z) = sj := by unfold rStep; rw [if_neg (fun h => by rw [hbb] at h; simp at h)]
                        have HSE := Lib.hid hse
                        clear hse hbb
                        go_wp2_with fail
                        go_roundw
                        case rel => exact ⟨j + 1, by omega, by go_num, by rw [Hst.out, HSE.out]; exact HRq.out⟩
                        case measure => simp [intOf]; omega
                    · have czI : ¬ (z : Int) < (n : Int) := by omega
                      have hse : rStep n sj (a, z) = sj := by unfold rStep; rw [if_neg (fun h => cz h.2.1)]
                      have HSE := Lib.hid hse
                      clear hse hbb
                      go_wp2_with fail
                      go_roundw
                      case rel => exact ⟨j + 1, by omega, by go_num, by rw [Hst.out, HSE.out]; exact HRq.out⟩
                      case measure => simp [intOf]; omega
                  · have caI : ¬ (a : Int) < (n : Int) := by omega
                    have hse : rStep n sj (a, z) = sj := by unfold rStep; rw [if_neg (fun h => ca h.1)]
                    have HSE := Lib.hid hse
                    clear hse hbb
                    go_wp2_with fail
                    go_roundw
                    case rel => exact ⟨j + 1, by omega, by go_num, by rw [Hst.out, HSE.out]; exact HRq.out⟩
                    case measure => simp [intOf]; omega
                · have hltI : ¬ (j : Int) < (m : Int) := by omega
                  clear hR
                  go_wp2_with fail
                  go_roundw
                  case rel => exact ⟨r + 1, by omega, by go_num, by rw [HRS.out]; rw [List.take_of_length_le (by omega)] at HR; exact HR.out⟩
                  case measure => simp [intOf]; omega
            · have hr16I : ¬ (r : Int) < 16 := by omega
              have hre : r = 16 := by omega
              go_wp2_with fail
              go_meet
              case rel => rw [hre] at HRr; exact HRr.out
        case rest =>
          obtain ⟨S, hS⟩ : ∃ z, z = rRounds n E sn 16 := ⟨_, rfl⟩
          rw [← hS] at hcut
          have hSl : S.length = 16 := by rw [hS, rRounds_len]; exact hsl
          have hSr : ∀ i, i < n → (S[i]? = some true ↔ Reach (rItems x0 n) (rSeqs x1 m) i) := fun i hi => by rw [hS, HE.out, HSN.out]; exact rounds_reach hn12 i hi
          have HR5 := Lib.hid hcut
          have HSR := Lib.hid hSr
          clear hcut HR4 hS hSr
          obtain ⟨V5, rfl⟩ : ∃ V, V = wc := ⟨_, rfl⟩
          have HIt := Lib.hid (Rd.below HR5.out.bel _ _ HR2.out.items)
          have HSq := Lib.hid (Rd.below HR5.out.bel _ _ HR2.out.seqs)
          go_wp2_with fail
          refine (reached_any HIt.out HSq.out (by rw [rItems_len]; omega) (by rw [rSeqs_len]; omega)).mono ?_
          rintro e w5 ⟨sg, hsgl, hsgr, A9, c9, rfl, hown, hb5⟩
          rw [rItems_len] at hsgl
          have HR6 := Lib.hid (HR5.out.below hb5)
          have HO := Lib.hid hown
          have hdiff : ∀ i, i < n → S[i]? = sg[i]? := fun i hi => by
            have h1 := HSR.out i hi
            have h2 := hsgr i
            rw [List.getElem?_eq_getElem (by omega), List.getElem?_eq_getElem (by omega)] at *
            simp only [Option.some.injEq] at *
            rw [Bool.eq_iff_iff, h1, h2]
          have HDF := Lib.hid hdiff
          have HB5 := Lib.hid hb5
          obtain ⟨L9, hL9⟩ : ∃ z, z = placesFrom (fun b : Bool => b) sg 0 := ⟨_, rfl⟩
          rw [← hL9] at HO
          rw [← hL9]
          have hL9n : L9.length ≤ sg.length := by rw [hL9]; exact placesFrom_len _ _ _
          have HL9 := Lib.hid hL9
          clear hown hsgr hdiff hb5 hL9 HR5 HIt HSq
          go_upto_block 10 with fail
          go_cut [16] (fun kv wx => kv = .int .i64 L9.length ∧ Below w5.heap.size w5 wx)
          case first =>
            go_wp2_with fail
            go_loopw [16, 17] (fun kv iv wr => ∃ i : Nat, i ≤ n ∧ iv = .int .i64 i ∧ kv = .int .i64 (placesFrom (fun b : Bool => b) (sg.take i) 0).length ∧ Below w5.heap.size w5 wr) (fun _ iv _ => n - (intOf iv).toNat)
            case atStart => exact ⟨0, Nat.zero_le _, rfl, rfl, Below.refl _ _⟩
            case round =>
              obtain ⟨i, hi, rfl, rfl, hB⟩ := hrel
              have HB := Lib.hid hB
              have hszw := hB.size
              by_cases hlt : i < n
              · have hltI : (i : Int) < (n : Int) := by omega
                obtain ⟨b5, rfl, hbl, _, hcI⟩ := HR2.out.itemAt i hlt
                have yI0 := (HR6.out.bel.cell (p := ⟨b5, i * 10 + 1, none⟩) hbl).trans hcI
                have hbl5 : b5 < w5.heap.size := Nat.lt_of_lt_of_le hbl HR6.out.bel.size
                have HYI := Lib.hid yI0
                obtain ⟨li, hli⟩ : ∃ z, z = lt i := ⟨_, rfl⟩
                obtain ⟨s, hs⟩ : ∃ z, z = rSeqs x1 m := ⟨_, rfl⟩
                have hsm : s.length = m := by rw [hs]; exact rSeqs_len _ _
                obtain ⟨pI, hpI⟩ : ∃ p : SeqD → Bool, p = fun x => eqS x.dst li := ⟨_, rfl⟩
                obtain ⟨pO, hpO⟩ : ∃ p : SeqD → Bool, p = fun x => eqS x.src li := ⟨_, rfl⟩
                rw [← hli] at HYI
                have HLI := Lib.hid hli
                have HS := Lib.hid hs
                have HPI := Lib.hid hpI
                have HPO := Lib.hid hpO
                clear hB yI0 hcI hli hs hpI hpO
                go_upto_block 12 with fail
                go_cut [18, 19] (fun av bv wx => av = .int .i64 (cntN pI s m) ∧ bv = .int .i64 (cntN pO s m) ∧ Below w5.heap.size w5 wx)
                case first =>
                  go_wp2_with fail
                  go_loopw [18, 19, 20] (fun av bv jv wr => ∃ j : Nat, j ≤ m ∧ jv = .int .i64 j ∧ av = .int .i64 (cntN pI s j) ∧ bv = .int .i64 (cntN pO s j) ∧ Below w5.heap.size w5 wr) (fun _ _ jv _ => m - (intOf jv).toNat)
                  case atStart => exact ⟨0, Nat.zero_le _, rfl, rfl, rfl, HB.out⟩
                  case round =>
                    clear HB hszw
                    obtain ⟨j, hj, rfl, rfl, rfl, hB⟩ := hrel
                    have HB := Lib.hid hB
                    have hszw := hB.size
                    have hle1 := cntN_le pI s j
                    have hle2 := cntN_le pO s j
                    by_cases hltj : j < m
                    · obtain ⟨b6, rfl, hbl6, hc1, hc2⟩ := HR2.out.seqAt j hltj
                      have hbl65 : b6 < w5.heap.size := Nat.lt_of_lt_of_le hbl6 HR6.out.bel.size
                      have y1 := (hB.cell (p := ⟨b6, j * 3 + 1, none⟩) hbl65).trans ((HR6.out.bel.cell (p := ⟨b6, j * 3 + 1, none⟩) hbl6).trans hc1)
                      have y2 := (hB.cell (p := ⟨b6, j * 3 + 2, none⟩) hbl65).trans ((HR6.out.bel.cell (p := ⟨b6, j * 3 + 2, none⟩) hbl6).trans hc2)
                      have yI := (hB.cell (p := ⟨b5, i * 10 + 1, none⟩) hbl5).trans HYI.out
                      have hsj : s[j]'(by omega) = rSeq (rEdge x1 j).1 (rEdge x1 j).2 := by
                        have : s[j]'(by omega) = (rSeqs x1 m)[j]'(by rw [rSeqs_len]; exact hltj) := by simp only [HS.out]
                        rw [this, rSeqs_at]
                      obtain ⟨sa, hsa⟩ : ∃ z, z = lt (rEdge x1 j).1 := ⟨_, rfl⟩
                      obtain ⟨sz, hsz⟩ : ∃ z, z = lt (rEdge x1 j).2 := ⟨_, rfl⟩
                      rw [← hsa] at y1
                      rw [← hsz] at y2
                      have hst1 := cntN_step pI s j (by omega)
                      have hst2 := cntN_step pO s j (by omega)
                      have hp1 : pI (s[j]'(by omega)) = (sz.toList == li.toList) := by rw [hsj, HPI.out, hsz]; rfl
                      have hp2 : pO (s[j]'(by omega)) = (sa.toList == li.toList) := by rw [hsj, HPO.out, hsa]; rfl
                      rw [hp1] at hst1
                      rw [hp2] at hst2
                      have hltjI : (j : Int) < (m : Int) := by omega
                      clear hc1 hc2 hsj hsa hsz hp1 hp2 hB
                      obtain ⟨t1, ht1⟩ : ∃ z, z = (sz.toList == li.toList) := ⟨_, rfl⟩
                      obtain ⟨t2, ht2⟩ : ∃ z, z = (sa.toList == li.toList) := ⟨_, rfl⟩
                      rw [← ht1] at hst1
                      rw [← ht2] at hst2
                      have Hst1 := Lib.hid hst1
                      have Hst2 := Lib.hid hst2
                      clear hst1 hst2
                      go_upto_region 32 with fail
                      cases t1 with
                      | true =>
                        cases t2 with
                        | true =>
                          have ht1' := ht1.symm
                          have ht2' := ht2.symm
                          clear ht1 ht2
                          go_quiet (fail)
                          have y1' : (wr.drewN nq).cell? ⟨b6, j * 3 + 1, none⟩ = some (.string sa) := y1
                          have yI' : (wr.drewN nq).cell? ⟨b5, i * 10 + 1, none⟩ = some (.string li) := yI
                          have HBq := Lib.hid (below_drewN HB.out nq)
                          obtain ⟨w7, hw7⟩ : ∃ U, U = wr.drewN nq := ⟨_, rfl⟩
                          rw [← hw7] at y1' yI' HBq
                          rw [← hw7]
                          clear hw7 y1 y2 yI
                          go_upto_region 34 with fail
                          go_quiet (fail)
                          go_wp2_with fail
                          go_roundw
                          case rel => exact ⟨j + 1, by omega, by go_num, by rw [Hst1.out]; first | rfl | go_num, by rw [Hst2.out]; first | rfl | go_num, below_drewN HBq.out _⟩
                          case measure => simp [intOf]; omega
                        | false =>
                          have ht1' := ht1.symm
                          have ht2' := ht2.symm
                          clear ht1 ht2
                          go_quiet (fail)
                          have y1' : (wr.drewN nq).cell? ⟨b6, j * 3 + 1, none⟩ = some (.string sa) := y1
                          have yI' : (wr.drewN nq).cell? ⟨b5, i * 10 + 1, none⟩ = some (.string li) := yI
                          have HBq := Lib.hid (below_drewN HB.out nq)
                          obtain ⟨w7, hw7⟩ : ∃ U, U = wr.drewN nq := ⟨_, rfl⟩
                          rw [← hw7] at y1' yI' HBq
                          rw [← hw7]
                          clear hw7 y1 y2 yI
                          go_upto_region 34 with fail
                          go_quiet (fail)
                          go_wp2_with fail
                          go_roundw
                          case rel => exact ⟨j + 1, by omega, by go_num, by rw [Hst1.out]; first | rfl | go_num, by rw [Hst2.out]; first | rfl | go_num, below_drewN HBq.out _⟩
                          case measure => simp [intOf]; omega
                      | false =>
                        cases t2 with
                        | true =>
                          have ht1' := ht1.symm
                          have ht2' := ht2.symm
                          clear ht1 ht2
                          go_quiet (fail)
                          have y1' : (wr.drewN nq).cell? ⟨b6, j * 3 + 1, none⟩ = some (.string sa) := y1
                          have yI' : (wr.drewN nq).cell? ⟨b5, i * 10 + 1, none⟩ = some (.string li) := yI
                          have HBq := Lib.hid (below_drewN HB.out nq)
                          obtain ⟨w7, hw7⟩ : ∃ U, U = wr.drewN nq := ⟨_, rfl⟩
                          rw [← hw7] at y1' yI' HBq
                          rw [← hw7]
                          clear hw7 y1 y2 yI
                          go_upto_region 34 with fail
                          go_quiet (fail)
                          go_wp2_with fail
                          go_roundw
                          case rel => exact ⟨j + 1, by omega, by go_num, by rw [Hst1.out]; first | rfl | go_num, by rw [Hst2.out]; first | rfl | go_num, below_drewN HBq.out _⟩
                          case measure => simp [intOf]; omega
                        | false =>
                          have ht1' := ht1.symm
                          have ht2' := ht2.symm
                          clear ht1 ht2
                          go_quiet (fail)
                          have y1' : (wr.drewN nq).cell? ⟨b6, j * 3 + 1, none⟩ = some (.string sa) := y1
                          have yI' : (wr.drewN nq).cell? ⟨b5, i * 10 + 1, none⟩ = some (.string li) := yI
                          have HBq := Lib.hid (below_drewN HB.out nq)
                          obtain ⟨w7, hw7⟩ : ∃ U, U = wr.drewN nq := ⟨_, rfl⟩
                          rw [← hw7] at y1' yI' HBq
                          rw [← hw7]
                          clear hw7 y1 y2 yI
                          go_upto_region 34 with fail
                          go_quiet (fail)
                          go_wp2_with fail
                          go_roundw
                          case rel => exact ⟨j + 1, by omega, by go_num, by rw [Hst1.out]; first | rfl | go_num, by rw [Hst2.out]; first | rfl | go_num, below_drewN HBq.out _⟩
                          case measure => simp [intOf]; omega
                    · have hltjI : ¬ (j : Int) < (m : Int) := by omega
                      have hje : j = m := by omega
                      subst hje
                      clear hB
                      go_wp2_with fail
                      go_meet
                      case rel => exact ⟨rfl, rfl, HB.out⟩
                case rest =>
                  obtain ⟨rfl, rfl, hB7⟩ := hcut
                  obtain ⟨V7, rfl⟩ : ∃ V, V = wc := ⟨_, rfl⟩
                  have HB7 := Lib.hid hB7
                  clear hB7 HB hszw
                  have hle1 := cntN_le pI s m
                  have hle2 := cntN_le pO s m
                  obtain ⟨ci, hci⟩ : ∃ z, z = cntN pI s m := ⟨_, rfl⟩
                  obtain ⟨co, hco⟩ : ∃ z, z = cntN pO s m := ⟨_, rfl⟩
                  rw [← hci] at hle1
                  rw [← hco] at hle2
                  rw [← hci, ← hco]
                  have hRd7 : Rd V7 (seqsD s) (.slice A6 m c6) := by rw [HS.out]; exact Rd.below (HR6.out.below (HB7.out.mono (Nat.le_refl _))).bel _ _ HR2.out.seqs
                  have yI := (HB7.out.cell (p := ⟨b5, i * 10 + 1, none⟩) hbl5).trans HYI.out
                  have hin := in_any li hRd7
                  have hout := fun (U : World) (hb : Below V7.heap.size V7 U) => out_any li (Rd.below hb _ _ hRd7)
                  rw [← HPI.out, hsm, ← hci] at hin
                  rw [← HPO.out, hsm, ← hco] at hout
                  have HIN := Lib.hid hin
                  have HOUT := Lib.hid hout
                  clear hRd7 hin hout hci hco
                  go_wp2_with fail
                  refine HIN.out.mono ?_
                  rintro e w8 ⟨rfl, hb8⟩
                  have yI8 := (hb8.cell (p := ⟨b5, i * 10 + 1, none⟩) (Nat.lt_of_lt_of_le hbl5 HB7.out.size)).trans yI
                  have HB8 := Lib.hid hb8
                  clear hb8 yI
                  go_wp2_with fail
                  refine (HOUT.out _ HB8.out).mono ?_
                  rintro e w9 ⟨rfl, hb9⟩
                  have HB9 := Lib.hid (HB7.out.trans ((HB8.out.trans (hb9.mono HB8.out.size)).mono HB7.out.size))
                  have HR9 := Lib.hid (HR6.out.below HB9.out)
                  clear hb9 yI8
                  obtain ⟨bb, hbb⟩ : ∃ bb, S[i]? = some bb := ⟨_, List.getElem?_eq_getElem (by omega)⟩
                  have yS := HR9.out.cell hbb
                  have hdl9 := HR9.out.db.lt
                  have hi16I : (i : Int) < 16 := by omega
                  have hsgi : sg[i]? = some bb := by rw [← HDF.out i hlt]; exact hbb
                  have hsgi2 : sg[i]'(by omega) = bb := by
                    rw [List.getElem?_eq_getElem (by omega)] at hsgi
                    exact Option.some.inj hsgi
                  have hst := places_step (fun b : Bool => b) sg i (by omega)
                  rw [hsgi2] at hst
                  have hpl := places_le (fun b : Bool => b) sg i
                  clear hbb hsgi
                  cases bb with
                  | false =>
                    rw [if_neg Bool.false_ne_true, List.append_nil] at hst
                    have Hst := Lib.hid hst
                    clear hst hsgi2
                    go_wp2_with fail
                    go_roundw
                    case rel => exact ⟨i + 1, by omega, by go_num, by rw [Hst.out], HB9.out⟩
                    case measure => simp [intOf]; omega
                  | true =>
                    rw [if_pos rfl] at hst
                    have hget := places_get sg i (by omega) hsgi2
                    rw [← HL9.out] at hget
                    obtain ⟨k, hk⟩ : ∃ z, z = (placesFrom (fun b : Bool => b) (sg.take i) 0).length := ⟨_, rfl⟩
                    rw [← hk] at hget hpl
                    rw [← hk]
                    have hkl : k < L9.length := (List.getElem?_eq_some_iff.1 hget).1
                    obtain ⟨g9, rfl, hg9, _, hc9⟩ := own_at HO.out (by omega)
                    have yG : w9.cell? ⟨g9, k, none⟩ = some (.int .i64 i) := (HB9.out.cell (p := ⟨g9, k, none⟩) hg9).trans ((hc9 k (by omega)).trans (by rw [List.getElem?_map, hget]; rfl))
                    have hstl : (placesFrom (fun b : Bool => b) (sg.take (i + 1)) 0).length = k + 1 := by rw [hst, List.length_append, ← hk]; rfl
                    have Hst := Lib.hid hstl
                    have hklI : (k : Int) < (L9.length : Int) := by omega
                    have hklI2 : ¬ (L9.length : Int) ≤ (k : Int) := by omega
                    clear hst hsgi2 hget hk hc9 hstl
                    go_wp2_with fail
                    go_roundw
                    case rel => exact ⟨i + 1, by omega, by go_num, by rw [Hst.out]; go_num, HB9.out⟩
                    case measure => simp [intOf]; omega
              · have hltI : ¬ (i : Int) < (n : Int) := by omega
                have hke : (placesFrom (fun b : Bool => b) (sg.take i) 0).length = L9.length := by rw [HL9.out, List.take_of_length_le (by omega)]
                have HKE := Lib.hid hke
                clear hke hB
                go_wp2_with fail
                go_meet
                case rel => exact ⟨by rw [HKE.out], HB.out⟩
          case rest =>
            obtain ⟨rfl, hB9⟩ := hcut
            obtain ⟨V9, rfl⟩ : ∃ V, V = wc := ⟨_, rfl⟩
            have HB9 := Lib.hid (HR6.out.bel.trans (hB9.mono HR6.out.bel.size))
            clear hB9
            go_wp2_with fail
            refine (awake_any _).mono ?_
            rintro e w10 ⟨rfl, hb10⟩
            have HB10 := Lib.hid hb10
            clear hb10
            go_wp2_with fail
            go_ret
            have h1 : Below w.heap.size w V9 := HR2.out.bel.trans (HB9.out.mono HR2.out.bel.size)
            exact ⟨by simp, h1.trans (HB10.out.mono h1.size)⟩
end Go.Proofs.Ytljmghaplnkohaa
