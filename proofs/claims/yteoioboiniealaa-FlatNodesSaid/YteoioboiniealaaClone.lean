/- Copies of slices, and whether a text is among others: the contracts of slices.Clone, Index, Contains. -/
import Derived.Test.YteoioboiniealaaInlF
import Derived.Lib.SliceRun
namespace Go.Proofs.Yteoioboiniealaa
open Go.RowKit

theorem rd_oneC {w : World} : ∀ (d : Dat) (v : Value), Rd w d v → v.oneCell' = true
  | .int _, v, h => by rw [rd_int.1 h]; rfl
  | .str _, v, h => by rw [rd_str.1 h]; rfl
  | .bool _, v, h => by rw [rd_bool.1 h]; rfl
  | .sl _ _ _ _, v, h => by obtain ⟨A, c, xs, rfl, _⟩ := rd_sl.1 h; rfl
theorem rdl_oneC {w : World} : ∀ {ds : List Dat} {xs : List Value}, RdL w ds xs → ∀ u ∈ xs, u.oneCell' = true
  | [], xs, h => by rw [rdl_nil.1 h]; simp
  | d :: ds, xs, h => by
    obtain ⟨v, r, rfl, hd, hl⟩ := rdl_cons.1 h
    intro u hu
    rcases List.mem_cons.1 hu with rfl | hu
    · exact rd_oneC d _ hd
    · exact rdl_oneC hl u hu
/-- What a copy is: new, and the same data. -/
def Cloned (w : World) (e sz n : Nat) (ds : List Dat) (r : Ending) (w' : World) : Prop :=
  ∃ v xs, r = .returned v ∧ w'.ownsRow w.heap.size e sz v n xs ∧ RdL w ds xs ∧ Below w.heap.size w w'
theorem Cloned.rd {α : Type} {w w' : World} {e sz : Nat} {f : α → List Dat} {l : List α} {r : Ending} (h : Cloned w e sz l.length (l.flatMap f) r w') : ∃ v, r = .returned v ∧ Rd w' (datS e sz f l) v ∧ Below w.heap.size w w' := by
  obtain ⟨v, xs, rfl, ho, hl, hb⟩ := h
  obtain ⟨A, c, rfl, _, _⟩ := own_slice ho
  exact ⟨_, rfl, rd_sl.2 ⟨A, c, xs, rfl, own_mono ho (by omega), RdL.below hb _ _ hl⟩, hb⟩
theorem eqS_comm (a b : ByteArray) : eqS a b = eqS b a := by
  unfold eqS
  rw [Bool.eq_iff_iff]
  simp only [beq_iff_eq]
  exact ⟨Eq.symm, Eq.symm⟩
theorem findFrom_ge {α : Type} (p : α → Bool) : ∀ (l : List α) (k : Nat), decide (findFrom p l k ≥ 0) = l.any p
  | [], k => rfl
  | x :: l, k => by
    unfold findFrom
    cases hx : p x
    · rw [if_neg (by simp)]
      rw [findFrom_ge p l (k + 1)]
      simp [hx]
    · rw [if_pos rfl]
      simp [hx]

set_option maxHeartbeats 1000000 in
theorem index_any {w : World} {v : Value} {l : List ByteArray} (s : ByteArray) (hv : Rd w (strsD l) v) :
    Calls Try.prog 87 #[v, .string s] w fun e w' => e = .returned (.int .i64 (findFrom (eqS s) l 0)) ∧ w = w' := by
  obtain ⟨A, c, rfl, hlc, hcm, hat⟩ := rd_at strC_len hv
  have hmx : l.length ≤ maxLen := by omega
  unfold maxLen at hmx
  have HAT := Lib.hid hat
  clear hat hv hcm
  obtain ⟨pf, hpf⟩ : ∃ pf : ByteArray → Bool, pf = eqS s := ⟨_, rfl⟩
  rw [← hpf]
  have HP := Lib.hid hpf
  clear hpf
  go_enter Try.func87, Try.ntmps87
  go_wp2_with fail
  go_loop [8] (fun v => ∃ k : Nat, k ≤ l.length ∧ v = .int .i64 k ∧ Hid (findFrom pf l 0 = findFrom pf (l.drop k) k)) (fun v => l.length - (intOf v).toNat)
  case atStart => exact ⟨0, Nat.zero_le _, rfl, rfl⟩
  case round =>
    obtain ⟨k, hk, rfl, hinv⟩ := hrel
    by_cases hlt : k < l.length
    · obtain ⟨b, vs, rfl, hbl, _, hvs, hcell⟩ := HAT.out k hlt
      have hd : l.drop k = l[k] :: l.drop (k + 1) := List.drop_eq_getElem_cons hlt
      have hi := hinv.out
      rw [hd, findFrom] at hi
      have hpk : pf l[k] = (s.toList == l[k].toList) := by rw [HP.out]; rfl
      rw [hpk] at hi
      generalize l[k] = x at *
      obtain rfl := rd_strC hvs
      have x0 : w.cell? ⟨b, k, none⟩ = some (.string x) := by have := hcell 0 (by omega); simpa using this
      clear hcell hd hinv hpk hvs
      rcases ht : (s.toList == x.toList) with _ | _
      · rw [ht, if_neg Bool.false_ne_true] at hi
        have Hi := Lib.hid hi
        clear hi
        go_wp2_with fail
        go_round
        case rel => exact ⟨k + 1, by omega, by go_num, Hi⟩
        case measure => simp [intOf]; omega
      · rw [ht, if_pos (rfl : true = true)] at hi
        have Hi := Lib.hid hi
        clear hi
        go_wp2_with fail
        go_ret
        exact ⟨by rw [Hi.out]; rfl, rfl⟩
    · have hi := hinv.out
      rw [List.drop_eq_nil_of_le (by omega), findFrom] at hi
      have Hi := Lib.hid hi
      clear hi
      go_wp2_with fail
      go_ret
      exact ⟨by rw [Hi.out]; rfl, rfl⟩
theorem contains_any {w : World} {v : Value} {l : List ByteArray} (s : ByteArray) (hv : Rd w (strsD l) v) :
    Calls Try.prog 81 #[v, .string s] w fun e w' => e = .returned (.bool (l.any (eqS · s))) ∧ w = w' := by
  have H := Lib.hid hv
  have hfin : decide (findFrom (eqS s) l 0 ≥ 0) = l.any (eqS · s) := by
    rw [findFrom_ge]
    congr 1
    funext x
    exact eqS_comm s x
  have Hfin := Lib.hid hfin
  obtain ⟨r, hr⟩ : ∃ r, r = l.any (eqS · s) := ⟨_, rfl⟩
  rw [← hr] at hfin ⊢
  clear hv hr Hfin
  have Hf := Lib.hid hfin
  clear hfin
  go_enter Try.func81, Try.ntmps81
  go_wp2_with fail
  refine (index_any s H.out).mono ?_
  rintro e w' ⟨rfl, rfl⟩
  generalize findFrom (eqS s) l 0 = q at *
  go_wp2_with fail
  go_ret
  exact ⟨ret_bool (by have := Hf.out; simpa using this), rfl⟩

theorem Try.infoClStr : (Try.prog.info? 9).map (fun i => (i.zero, i.size, i.bytes)) = some (some (.string ⟨#[]⟩), 1, 16) := by kernel_rfl
set_option maxRecDepth 100000 in
set_option maxHeartbeats 1000000 in
theorem cloneStr_any {w : World} {v : Value} {n : Nat} {ds : List Dat} (hv : Rd w (.sl 9 1 n ds) v) (hn : n ≤ 1000000) :
    Calls Try.prog 83 #[v] w (Cloned w 9 1 n ds) := by
  obtain ⟨i0, hi0, hz0, hz1, hz2⟩ := info_parts Try.infoClStr
  obtain ⟨A, c, xs, rfl, ho, hl⟩ := rd_sl.1 hv
  have HL := Lib.hid hl
  have H1 := Lib.hid (rdl_oneC hl)
  have HO := Lib.hid ho
  have HR := Lib.hid (Reads.of_own ho)
  rcases A with _ | a
  · have hz : n = 0 ∧ xs = [] ∧ c = 0 := by
      rcases ho.2 with ⟨h1, h2⟩ | ⟨g, cap, cur, h1, _⟩
      · injection h1 with _ h3 h4
        exact ⟨h3, own_zero ho h3, h4⟩
      · injection h1 with h1; cases h1
    obtain ⟨rfl, rfl, rfl⟩ := hz
    have heq : ∀ W, (binOp .eql 30 (.slice none 0 0) (.slice none 0 0)).run Try.prog W = .ok (.bool true) W := fun W => Lib.run_eql_slice_nil (P := Try.prog) W 30 9 none 0 0 0 0 Try.underlying30
    clear ho hl hv hn
    go_enter Try.func83, Try.ntmps83
    go_wp2_with fail
    go_ret
    exact ⟨_, [], rfl, World.ownsRow_nil _ _ _ _, HL.out, Below.refl _ _⟩
  · have heq : ∀ W, (binOp .eql 30 (.slice (some a) n c) (.slice none 0 0)).run Try.prog W = .ok (.bool false) W := fun W => Lib.run_eql_slice_nil (P := Try.prog) W 30 9 (some a) n c 0 0 Try.underlying30
    clear ho hl hv
    go_enter Try.func83, Try.ntmps83
    go_wp2_with (at_builtin; refine wpList_append_any _ rfl (.tmp 5) (.tmp 6) _ rfl w.heap.size 9 i0 _ 1 16 Try.underlying30 hi0 hz0 hz1 hz2 rfl (by omega) (.slice (some ⟨w.heap.size, 0, none⟩) 0 0) 0 [] rfl (World.ownsRow_lit (base := w.heap.size) w #[] 0 (Nat.le_refl _) (by decide) rfl) w.heap.size (some a) n c xs rfl (HR.out.alloc (Nat.le_refl _) _) H1.out (by unfold maxLen; omega) (by omega) (by simp) ?_)
    intro v' w2 hown2 hgrow hat2
    have hb2 : Below w.heap.size w w2 := ((Below.refl _ _).alloc (Nat.le_refl _) _).grown hgrow (by simp) (fun k hk => by simp [Value.ownBlock] at hk; omega)
    have HB2 := Lib.hid hb2
    have HO2 := Lib.hid hown2
    clear hown2 hgrow hat2 hb2
    go_wp2_with fail
    go_ret
    exact ⟨_, xs, rfl, by have := HO2.out; simpa using this, HL.out, HB2.out⟩

theorem Try.infoClFlow : (Try.prog.info? 40).map (fun i => (i.zero, i.size, i.bytes)) = some (some (.agg #[.string ⟨#[]⟩, .string ⟨#[]⟩, .string ⟨#[]⟩, .string ⟨#[]⟩]), 4, 64) := by kernel_rfl
set_option maxRecDepth 100000 in
set_option maxHeartbeats 1000000 in
theorem cloneFlow_any {w : World} {v : Value} {n : Nat} {ds : List Dat} (hv : Rd w (.sl 40 4 n ds) v) (hn : n ≤ 1000000) :
    Calls Try.prog 45 #[v] w (Cloned w 40 4 n ds) := by
  obtain ⟨i0, hi0, hz0, hz1, hz2⟩ := info_parts Try.infoClFlow
  obtain ⟨A, c, xs, rfl, ho, hl⟩ := rd_sl.1 hv
  have HL := Lib.hid hl
  have H1 := Lib.hid (rdl_oneC hl)
  have HO := Lib.hid ho
  have HR := Lib.hid (Reads.of_own ho)
  rcases A with _ | a
  · have hz : n = 0 ∧ xs = [] ∧ c = 0 := by
      rcases ho.2 with ⟨h1, h2⟩ | ⟨g, cap, cur, h1, _⟩
      · injection h1 with _ h3 h4
        exact ⟨h3, own_zero ho h3, h4⟩
      · injection h1 with h1; cases h1
    obtain ⟨rfl, rfl, rfl⟩ := hz
    have heq : ∀ W, (binOp .eql 24 (.slice none 0 0) (.slice none 0 0)).run Try.prog W = .ok (.bool true) W := fun W => Lib.run_eql_slice_nil (P := Try.prog) W 24 40 none 0 0 0 0 Try.underlying24
    clear ho hl hv hn
    go_enter Try.func45, Try.ntmps45
    go_wp2_with fail
    go_ret
    exact ⟨_, [], rfl, World.ownsRow_nil _ _ _ _, HL.out, Below.refl _ _⟩
  · have heq : ∀ W, (binOp .eql 24 (.slice (some a) n c) (.slice none 0 0)).run Try.prog W = .ok (.bool false) W := fun W => Lib.run_eql_slice_nil (P := Try.prog) W 24 40 (some a) n c 0 0 Try.underlying24
    clear ho hl hv
    go_enter Try.func45, Try.ntmps45
    go_wp2_with (at_builtin; refine wpList_append_any _ rfl (.tmp 5) (.tmp 6) _ rfl w.heap.size 40 i0 _ 4 64 Try.underlying24 hi0 hz0 hz1 hz2 rfl (by omega) (.slice (some ⟨w.heap.size, 0, none⟩) 0 0) 0 [] rfl (World.ownsRow_lit (base := w.heap.size) w #[] 0 (Nat.le_refl _) (by decide) rfl) w.heap.size (some a) n c xs rfl (HR.out.alloc (Nat.le_refl _) _) H1.out (by unfold maxLen; omega) (by omega) (by simp) ?_)
    intro v' w2 hown2 hgrow hat2
    have hb2 : Below w.heap.size w w2 := ((Below.refl _ _).alloc (Nat.le_refl _) _).grown hgrow (by simp) (fun k hk => by simp [Value.ownBlock] at hk; omega)
    have HB2 := Lib.hid hb2
    have HO2 := Lib.hid hown2
    clear hown2 hgrow hat2 hb2
    go_wp2_with fail
    go_ret
    exact ⟨_, xs, rfl, by have := HO2.out; simpa using this, HL.out, HB2.out⟩

theorem Try.infoClPart : (Try.prog.info? 38).map (fun i => (i.zero, i.size, i.bytes)) = some (some (.agg #[.string ⟨#[]⟩, .string ⟨#[]⟩]), 2, 32) := by kernel_rfl
set_option maxRecDepth 100000 in
set_option maxHeartbeats 1000000 in
theorem clonePart_any {w : World} {v : Value} {n : Nat} {ds : List Dat} (hv : Rd w (.sl 38 2 n ds) v) (hn : n ≤ 1000000) :
    Calls Try.prog 46 #[v] w (Cloned w 38 2 n ds) := by
  obtain ⟨i0, hi0, hz0, hz1, hz2⟩ := info_parts Try.infoClPart
  obtain ⟨A, c, xs, rfl, ho, hl⟩ := rd_sl.1 hv
  have HL := Lib.hid hl
  have H1 := Lib.hid (rdl_oneC hl)
  have HO := Lib.hid ho
  have HR := Lib.hid (Reads.of_own ho)
  rcases A with _ | a
  · have hz : n = 0 ∧ xs = [] ∧ c = 0 := by
      rcases ho.2 with ⟨h1, h2⟩ | ⟨g, cap, cur, h1, _⟩
      · injection h1 with _ h3 h4
        exact ⟨h3, own_zero ho h3, h4⟩
      · injection h1 with h1; cases h1
    obtain ⟨rfl, rfl, rfl⟩ := hz
    have heq : ∀ W, (binOp .eql 23 (.slice none 0 0) (.slice none 0 0)).run Try.prog W = .ok (.bool true) W := fun W => Lib.run_eql_slice_nil (P := Try.prog) W 23 38 none 0 0 0 0 Try.underlying23
    clear ho hl hv hn
    go_enter Try.func46, Try.ntmps46
    go_wp2_with fail
    go_ret
    exact ⟨_, [], rfl, World.ownsRow_nil _ _ _ _, HL.out, Below.refl _ _⟩
  · have heq : ∀ W, (binOp .eql 23 (.slice (some a) n c) (.slice none 0 0)).run Try.prog W = .ok (.bool false) W := fun W => Lib.run_eql_slice_nil (P := Try.prog) W 23 38 (some a) n c 0 0 Try.underlying23
    clear ho hl hv
    go_enter Try.func46, Try.ntmps46
    go_wp2_with (at_builtin; refine wpList_append_any _ rfl (.tmp 5) (.tmp 6) _ rfl w.heap.size 38 i0 _ 2 32 Try.underlying23 hi0 hz0 hz1 hz2 rfl (by omega) (.slice (some ⟨w.heap.size, 0, none⟩) 0 0) 0 [] rfl (World.ownsRow_lit (base := w.heap.size) w #[] 0 (Nat.le_refl _) (by decide) rfl) w.heap.size (some a) n c xs rfl (HR.out.alloc (Nat.le_refl _) _) H1.out (by unfold maxLen; omega) (by omega) (by simp) ?_)
    intro v' w2 hown2 hgrow hat2
    have hb2 : Below w.heap.size w w2 := ((Below.refl _ _).alloc (Nat.le_refl _) _).grown hgrow (by simp) (fun k hk => by simp [Value.ownBlock] at hk; omega)
    have HB2 := Lib.hid hb2
    have HO2 := Lib.hid hown2
    clear hown2 hgrow hat2 hb2
    go_wp2_with fail
    go_ret
    exact ⟨_, xs, rfl, by have := HO2.out; simpa using this, HL.out, HB2.out⟩

theorem Try.infoClSeq : (Try.prog.info? 36).map (fun i => (i.zero, i.size, i.bytes)) = some (some (.agg #[.string ⟨#[]⟩, .string ⟨#[]⟩, .string ⟨#[]⟩]), 3, 48) := by kernel_rfl
set_option maxRecDepth 100000 in
set_option maxHeartbeats 1000000 in
theorem cloneSeq_any {w : World} {v : Value} {n : Nat} {ds : List Dat} (hv : Rd w (.sl 36 3 n ds) v) (hn : n ≤ 1000000) :
    Calls Try.prog 47 #[v] w (Cloned w 36 3 n ds) := by
  obtain ⟨i0, hi0, hz0, hz1, hz2⟩ := info_parts Try.infoClSeq
  obtain ⟨A, c, xs, rfl, ho, hl⟩ := rd_sl.1 hv
  have HL := Lib.hid hl
  have H1 := Lib.hid (rdl_oneC hl)
  have HO := Lib.hid ho
  have HR := Lib.hid (Reads.of_own ho)
  rcases A with _ | a
  · have hz : n = 0 ∧ xs = [] ∧ c = 0 := by
      rcases ho.2 with ⟨h1, h2⟩ | ⟨g, cap, cur, h1, _⟩
      · injection h1 with _ h3 h4
        exact ⟨h3, own_zero ho h3, h4⟩
      · injection h1 with h1; cases h1
    obtain ⟨rfl, rfl, rfl⟩ := hz
    have heq : ∀ W, (binOp .eql 26 (.slice none 0 0) (.slice none 0 0)).run Try.prog W = .ok (.bool true) W := fun W => Lib.run_eql_slice_nil (P := Try.prog) W 26 36 none 0 0 0 0 Try.underlying26
    clear ho hl hv hn
    go_enter Try.func47, Try.ntmps47
    go_wp2_with fail
    go_ret
    exact ⟨_, [], rfl, World.ownsRow_nil _ _ _ _, HL.out, Below.refl _ _⟩
  · have heq : ∀ W, (binOp .eql 26 (.slice (some a) n c) (.slice none 0 0)).run Try.prog W = .ok (.bool false) W := fun W => Lib.run_eql_slice_nil (P := Try.prog) W 26 36 (some a) n c 0 0 Try.underlying26
    clear ho hl hv
    go_enter Try.func47, Try.ntmps47
    go_wp2_with (at_builtin; refine wpList_append_any _ rfl (.tmp 5) (.tmp 6) _ rfl w.heap.size 36 i0 _ 3 48 Try.underlying26 hi0 hz0 hz1 hz2 rfl (by omega) (.slice (some ⟨w.heap.size, 0, none⟩) 0 0) 0 [] rfl (World.ownsRow_lit (base := w.heap.size) w #[] 0 (Nat.le_refl _) (by decide) rfl) w.heap.size (some a) n c xs rfl (HR.out.alloc (Nat.le_refl _) _) H1.out (by unfold maxLen; omega) (by omega) (by simp) ?_)
    intro v' w2 hown2 hgrow hat2
    have hb2 : Below w.heap.size w w2 := ((Below.refl _ _).alloc (Nat.le_refl _) _).grown hgrow (by simp) (fun k hk => by simp [Value.ownBlock] at hk; omega)
    have HB2 := Lib.hid hb2
    have HO2 := Lib.hid hown2
    clear hown2 hgrow hat2 hb2
    go_wp2_with fail
    go_ret
    exact ⟨_, xs, rfl, by have := HO2.out; simpa using this, HL.out, HB2.out⟩
end Go.Proofs.Yteoioboiniealaa
