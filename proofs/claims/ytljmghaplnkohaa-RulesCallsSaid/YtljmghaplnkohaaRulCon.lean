/- The contracts of rules.count, degree, event, and of the function within level, The contract of rules.event, The contract of rules.task, joined. -/
import Derived.Test.YtljmghaplnkohaaRulAR
import Derived.Test.YtljmghaplnkohaaGenL
import Derived.Test.YtljmghaplnkohaaFindB
import Derived.Test.YtljmghaplnkohaaReg
import Derived.Test.YtljmghaplnkohaaIdsFG
import Derived.Deep.CutBlock
import Derived.Test.YtljmghaplnkohaaCon
import Derived.Deep.DeepCutAuto
namespace Go.Proofs.Ytljmghaplnkohaa
open Go.RowKit
attribute [local go_sem ↓] Go.wp_at_zero Go.wp_at_succ

def inN (s : List SeqD) (id : ByteArray) : Nat := cntN (fun x : SeqD => eqS x.dst id) s s.length
def outN (s : List SeqD) (id : ByteArray) : Nat := cntN (fun x : SeqD => eqS x.src id) s s.length
def kindN (l : List ItemD) (k : Int) : Nat := cntN (fun x : ItemD => x.kind == k) l l.length
def degF (s : List SeqD) (kind : Int) (id : ByteArray) : Int :=
  if (kind == 1) != (inN s id == 0) then 3
  else if kind = 2 then (if outN s id = 0 then 0 else 4)
  else if kind = 4 ∨ kind = 5 ∨ kind = 6 then (if outN s id = 0 then 4 else 0)
  else (if outN s id = 1 then 0 else 4)
def kindAt (l : List ItemD) (k : Int) : Int := (l.getD k.toNat ⟨0, ⟨#[]⟩, ⟨#[]⟩, [], [], false, ⟨#[]⟩, [], [], []⟩).kind
def evQ (l : List ItemD) (id : ByteArray) (q : SeqD) : Bool := !(eqS q.src id) || (decide (0 ≤ itemK l q.dst) && (kindAt l (itemK l q.dst) == 3))
def evF (l : List ItemD) (s : List SeqD) (id : ByteArray) : Bool := decide (2 ≤ outN s id) && s.all (evQ l id)
theorem inN_le (s : List SeqD) (id : ByteArray) : inN s id ≤ s.length := cntN_le _ _ _
theorem outN_le (s : List SeqD) (id : ByteArray) : outN s id ≤ s.length := cntN_le _ _ _
theorem kindN_le (l : List ItemD) (k : Int) : kindN l k ≤ l.length := cntN_le _ _ _
set_option maxHeartbeats 1000000 in
theorem count_any {w : World} {v : Value} {l : List ItemD} (kd : Int) (hv : Rd w (itemsD l) v) :
    Calls Try.prog 68 #[v, .int .i64 kd] w fun e w' => e = .returned (.int .i64 (kindN l kd)) ∧ Below w.heap.size w w' := by
  obtain ⟨A, c, rfl, hlc, hcm, hat⟩ := rd_at itemC_len hv
  have hmx : l.length ≤ maxLen := by omega
  unfold maxLen at hmx
  have HAT := Lib.hid hat
  clear hat hv hcm
  unfold kindN
  obtain ⟨pf, hpf⟩ : ∃ pf : ItemD → Bool, pf = fun x => x.kind == kd := ⟨_, rfl⟩
  rw [← hpf]
  have HP := Lib.hid hpf
  clear hpf
  go_enter Try.func68, Try.ntmps68
  go_wp2_with fail
  go_loopw [5, 10] (fun u v wr => ∃ k : Nat, k ≤ l.length ∧ u = .int .i64 (cntN pf l k) ∧ v = .int .i64 k ∧ Below w.heap.size w wr) (fun _ v _ => l.length - (intOf v).toNat)
  case atStart => exact ⟨0, Nat.zero_le _, rfl, rfl, Below.refl _ _⟩
  case round =>
    obtain ⟨k, hk, rfl, rfl, hB⟩ := hrel
    have HB := Lib.hid hB
    have hsz := hB.size
    clear hB
    have hle := cntN_le pf l k
    by_cases hlt : k < l.length
    · obtain ⟨b, vs, rfl, hbl, _, hvs, hcell⟩ := HAT.out k hlt
      have hst := cntN_step pf l k hlt
      have hpk : pf l[k] = (l[k].kind == kd) := by rw [HP.out]
      generalize l[k] = x at *
      obtain ⟨v3, v4, v7, v8, v9, rfl, h3, h4, h7, h8, h9⟩ := rd_itemC.1 hvs
      obtain ⟨A3, c3, rfl⟩ := rd_form h3
      obtain ⟨A4, c4, rfl⟩ := rd_form h4
      obtain ⟨A7, c7, rfl⟩ := rd_form h7
      obtain ⟨A8, c8, rfl⟩ := rd_form h8
      obtain ⟨A9, c9, rfl⟩ := rd_form h9
      have y0 : wr.cell? ⟨b, k * 10, none⟩ = some (.int .i64 x.kind) := (HB.out.cell (p := ⟨b, k * 10, none⟩) hbl).trans (hcell 0 (by omega))
      have y1 : wr.cell? ⟨b, k * 10 + 1, none⟩ = some (.string x.id) := (HB.out.cell (p := ⟨b, k * 10 + 1, none⟩) hbl).trans (hcell 1 (by omega))
      have y2 : wr.cell? ⟨b, k * 10 + 2, none⟩ = some (.string x.first) := (HB.out.cell (p := ⟨b, k * 10 + 2, none⟩) hbl).trans (hcell 2 (by omega))
      have y3 : wr.cell? ⟨b, k * 10 + 3, none⟩ = some (.slice A3 x.parts.length c3) := (HB.out.cell (p := ⟨b, k * 10 + 3, none⟩) hbl).trans (hcell 3 (by omega))
      have y4 : wr.cell? ⟨b, k * 10 + 4, none⟩ = some (.slice A4 x.flows.length c4) := (HB.out.cell (p := ⟨b, k * 10 + 4, none⟩) hbl).trans (hcell 4 (by omega))
      have y5 : wr.cell? ⟨b, k * 10 + 5, none⟩ = some (.bool x.loop) := (HB.out.cell (p := ⟨b, k * 10 + 5, none⟩) hbl).trans (hcell 5 (by omega))
      have y6 : wr.cell? ⟨b, k * 10 + 6, none⟩ = some (.string x.called) := (HB.out.cell (p := ⟨b, k * 10 + 6, none⟩) hbl).trans (hcell 6 (by omega))
      have y7 : wr.cell? ⟨b, k * 10 + 7, none⟩ = some (.slice A7 x.maps.length c7) := (HB.out.cell (p := ⟨b, k * 10 + 7, none⟩) hbl).trans (hcell 7 (by omega))
      have y8 : wr.cell? ⟨b, k * 10 + 8, none⟩ = some (.slice A8 x.items.length c8) := (HB.out.cell (p := ⟨b, k * 10 + 8, none⟩) hbl).trans (hcell 8 (by omega))
      have y9 : wr.cell? ⟨b, k * 10 + 9, none⟩ = some (.slice A9 x.seqs.length c9) := (HB.out.cell (p := ⟨b, k * 10 + 9, none⟩) hbl).trans (hcell 9 (by omega))
      have hkI : (k : Int) < (l.length : Int) := by omega
      cases ht : pf x
      · rw [ht] at hst hpk
        rw [if_neg Bool.false_ne_true] at hst
        have hpk2 := hpk.symm
        have Hst := Lib.hid hst
        generalize x.kind = xk at *
        clear hcell hvs hst hpk ht h3 h4 h7 h8 h9
        go_wp2_with fail
        go_roundw
        case rel => exact ⟨k + 1, by omega, by rw [Hst.out, Nat.add_zero], by go_num, HB.out.alloc hsz _⟩
        case measure => simp [intOf]; omega
      · rw [ht] at hst hpk
        rw [if_pos rfl] at hst
        have hpk2 := hpk.symm
        have Hst := Lib.hid hst
        generalize x.kind = xk at *
        clear hcell hvs hst hpk ht h3 h4 h7 h8 h9
        go_wp2_with fail
        go_roundw
        case rel => exact ⟨k + 1, by omega, by rw [Hst.out]; go_num, by go_num, HB.out.alloc hsz _⟩
        case measure => simp [intOf]; omega
    · have hfin : k = l.length := by omega
      subst hfin
      go_wp2_with fail
      go_ret
      exact ⟨rfl, HB.out⟩
set_option maxHeartbeats 1000000 in
theorem seqTwice_any {w : World} {g : Nat} (x q : SeqD) (hb : Blk w g 33 #[.string q.id, .string q.src, .string q.dst]) :
    Calls Try.prog 69 #[.agg #[.string x.id, .string x.src, .string x.dst], .pointer (some ⟨g, 0, none⟩)] w fun e w' => e = .returned (.bool (eqS x.src q.src && eqS x.dst q.dst)) ∧ Below w.heap.size w w' := by
  have x0 : w.cell? ⟨g, 0, none⟩ = some (.string q.id) := hb.cell 0
  have x1 : w.cell? ⟨g, 1, none⟩ = some (.string q.src) := hb.cell 1
  have x2 : w.cell? ⟨g, 2, none⟩ = some (.string q.dst) := hb.cell 2
  have hl := hb.lt
  unfold eqS
  clear hb
  go_enter Try.func69, Try.ntmps69
  cases h1 : (x.src.toList == q.src.toList)
  · go_wp2_with fail
    go_ret
    exact ⟨rfl, (Below.refl _ _).alloc (Nat.le_refl _) _⟩
  · cases h2 : (x.dst.toList == q.dst.toList)
    · go_wp2_with fail
      go_ret
      exact ⟨rfl, (Below.refl _ _).alloc (Nat.le_refl _) _⟩
    · go_wp2_with fail
      go_ret
      exact ⟨rfl, (Below.refl _ _).alloc (Nat.le_refl _) _⟩
set_option maxRecDepth 100000 in
set_option maxHeartbeats 8000000 in
theorem degree_any {w : World} {v : Value} {s : List SeqD} (x : ItemD) {A3 A4 A7 A8 A9 : Option Addr} {c3 c4 c7 c8 c9 : Nat} (hv : Rd w (seqsD s) v) :
    Calls Try.prog 81 #[v, .agg #[.int .i64 x.kind, .string x.id, .string x.first, .slice A3 x.parts.length c3, .slice A4 x.flows.length c4, .bool x.loop, .string x.called, .slice A7 x.maps.length c7, .slice A8 x.items.length c8, .slice A9 x.seqs.length c9]] w fun e w' => e = .returned (.int .i64 (degF s x.kind x.id)) ∧ Below w.heap.size w w' := by
  obtain ⟨A, c, rfl, hlc, hcm, _⟩ := rd_at seqC_len hv
  obtain ⟨V, hV⟩ : ∃ V, V = w.alloc (.cells #[.int .i64 x.kind, .string x.id, .string x.first, .slice A3 x.parts.length c3, .slice A4 x.flows.length c4, .bool x.loop, .string x.called, .slice A7 x.maps.length c7, .slice A8 x.items.length c8, .slice A9 x.seqs.length c9] 30) := ⟨_, rfl⟩
  obtain ⟨gx, hgx⟩ : ∃ g, g = w.heap.size := ⟨_, rfl⟩
  have bV : Below w.heap.size w V := by rw [hV]; exact (Below.refl _ _).alloc (Nat.le_refl _) _
  have hbx : Blk V gx 30 #[.int .i64 x.kind, .string x.id, .string x.first, .slice A3 x.parts.length c3, .slice A4 x.flows.length c4, .bool x.loop, .string x.called, .slice A7 x.maps.length c7, .slice A8 x.items.length c8, .slice A9 x.seqs.length c9] := by rw [hV, hgx]; exact Blk.new _ _ _
  have hres : ∃ r : Int, r = degF s x.kind x.id := ⟨_, rfl⟩
  obtain ⟨r, hr⟩ := hres
  rw [← hr]
  unfold degF at hr
  have hile := inN_le s x.id
  have hole := outN_le s x.id
  have hin := fun U (k : Below V.heap.size V U) => in_any x.id (Rd.below (bV.trans (k.mono bV.size)) _ _ hv)
  have hout := fun U (k : Below V.heap.size V U) => out_any x.id (Rd.below (bV.trans (k.mono bV.size)) _ _ hv)
  change ∀ U, Below V.heap.size V U → Calls _ _ _ _ (fun e w' => e = .returned (.int .i64 (inN s x.id)) ∧ _) at hin
  change ∀ U, Below V.heap.size V U → Calls _ _ _ _ (fun e w' => e = .returned (.int .i64 (outN s x.id)) ∧ _) at hout
  generalize inN s x.id = ni at *
  generalize outN s x.id = no at *
  have x0 : V.cell? ⟨gx, 0, none⟩ = some (.int .i64 x.kind) := hbx.cell 0
  have x1 : V.cell? ⟨gx, 1, none⟩ = some (.string x.id) := hbx.cell 1
  have x2 : V.cell? ⟨gx, 2, none⟩ = some (.string x.first) := hbx.cell 2
  have x3 : V.cell? ⟨gx, 3, none⟩ = some (.slice A3 x.parts.length c3) := hbx.cell 3
  have x4 : V.cell? ⟨gx, 4, none⟩ = some (.slice A4 x.flows.length c4) := hbx.cell 4
  have x5 : V.cell? ⟨gx, 5, none⟩ = some (.bool x.loop) := hbx.cell 5
  have x6 : V.cell? ⟨gx, 6, none⟩ = some (.string x.called) := hbx.cell 6
  have x7 : V.cell? ⟨gx, 7, none⟩ = some (.slice A7 x.maps.length c7) := hbx.cell 7
  have x8 : V.cell? ⟨gx, 8, none⟩ = some (.slice A8 x.items.length c8) := hbx.cell 8
  have x9 : V.cell? ⟨gx, 9, none⟩ = some (.slice A9 x.seqs.length c9) := hbx.cell 9
  have lgx := hbx.lt
  have HR := Lib.hid hr
  have HIN := Lib.hid hin
  have HOUT := Lib.hid hout
  have HBV := Lib.hid bV
  have HBX := Lib.hid hbx
  have HV := Lib.hid hV.symm
  have HG := Lib.hid hgx.symm
  clear hr hin hout bV hbx hV hgx hv
  go_enter Try.func81, Try.ntmps81
  go_upto_region 1 with fail
  rw [HV.out, HG.out]
  clear HV
  go_cut [5, 6] (fun a b wx => a = .int .i64 ni ∧ b = .int .i64 no ∧ Below V.heap.size V wx)
  case first =>
    refine wp_region_HT 8 (fun U => Below V.heap.size V U) (by kernel_rfl) (by decide) ((Below.refl _ _).drew) (fun hHeld => ?_)
    refine ht_take 0 (v := ?va_1) rfl (by kernel_rfl) (fun _ _ _ h => h) (Or.inl ⟨by rfl, ?ha_1⟩) hHeld ?ra_1
    case ha_1 => ((intro U hSw; have q1 : U.cell? ⟨gx, 1, none⟩ = some (.string x.id) := (hSw.cell (p := ⟨gx, 1, none⟩) lgx).trans x1; go_simp); (try (with_reducible rfl)))
    try simp only [Act.put, List.setIfInBounds_toArray, List.set_cons_zero, List.set_cons_succ]
    refine ht_take 1 (v := ?va_2) rfl (by kernel_rfl) (fun _ _ _ h => h) (Or.inl ⟨by rfl, ?ha_2⟩) hHeld ?ra_2
    case ha_2 => ((intro U hSw; have q1 : U.cell? ⟨gx, 1, none⟩ = some (.string x.id) := (hSw.cell (p := ⟨gx, 1, none⟩) lgx).trans x1; go_simp); (try (with_reducible rfl)))
    try simp only [Act.put, List.setIfInBounds_toArray, List.set_cons_zero, List.set_cons_succ]
    refine ht_take 2 (v := ?va_3) rfl (by kernel_rfl) (fun _ _ _ h => h) (Or.inl ⟨by rfl, ?ha_3⟩) hHeld ?ra_3
    case ha_3 => ((intro U hSw; have q1 : U.cell? ⟨gx, 1, none⟩ = some (.string x.id) := (hSw.cell (p := ⟨gx, 1, none⟩) lgx).trans x1; go_simp); (try (with_reducible rfl)))
    try simp only [Act.put, List.setIfInBounds_toArray, List.set_cons_zero, List.set_cons_succ]
    refine ht_take 4 (v := ?va_4) rfl (by kernel_rfl) (fun _ _ _ h => h) (Or.inl ⟨by rfl, ?ha_4⟩) hHeld ?ra_4
    case ha_4 => ((intro U hSw; have q1 : U.cell? ⟨gx, 1, none⟩ = some (.string x.id) := (hSw.cell (p := ⟨gx, 1, none⟩) lgx).trans x1; go_simp); (try (with_reducible rfl)))
    try simp only [Act.put, List.setIfInBounds_toArray, List.set_cons_zero, List.set_cons_succ]
    refine ht_take 5 (v := ?va_5) rfl (by kernel_rfl) (fun _ _ _ h => h) (Or.inl ⟨by rfl, ?ha_5⟩) hHeld ?ra_5
    case ha_5 => ((intro U hSw; have q1 : U.cell? ⟨gx, 1, none⟩ = some (.string x.id) := (hSw.cell (p := ⟨gx, 1, none⟩) lgx).trans x1; go_simp); (try (with_reducible rfl)))
    try simp only [Act.put, List.setIfInBounds_toArray, List.set_cons_zero, List.set_cons_succ]
    refine ht_take 6 (v := ?va_6) rfl (by kernel_rfl) (fun _ _ _ h => h) (Or.inl ⟨by rfl, ?ha_6⟩) hHeld ?ra_6
    case ha_6 => ((intro U hSw; have q1 : U.cell? ⟨gx, 1, none⟩ = some (.string x.id) := (hSw.cell (p := ⟨gx, 1, none⟩) lgx).trans x1; go_simp); (try (with_reducible rfl)))
    try simp only [Act.put, List.setIfInBounds_toArray, List.set_cons_zero, List.set_cons_succ]
    refine ht_one 3 rfl (by kernel_rfl) (fun K hK => ?_)
    go_simp
    refine (HIN.out _ hHeld).mono ?_
    rintro e w2 ⟨rfl, hb2⟩
    go_wp2_with fail
    refine hK.out _ _ (hHeld.trans (hb2.mono hHeld.size)) (fun hHeld => ?_)
    clear hK K
    try simp only [Act.put, List.setIfInBounds_toArray, List.set_cons_zero, List.set_cons_succ]
    refine ht_one 7 rfl (by kernel_rfl) (fun K hK => ?_)
    go_simp
    refine (HOUT.out _ hHeld).mono ?_
    rintro e w2 ⟨rfl, hb2⟩
    go_wp2_with fail
    refine hK.out _ _ (hHeld.trans (hb2.mono hHeld.size)) (fun hHeld => ?_)
    clear hK K
    try simp only [Act.put, List.setIfInBounds_toArray, List.set_cons_zero, List.set_cons_succ]
    refine ht_done (by kernel_rfl) rfl ?_
    have HH := Lib.hid hHeld
    clear hHeld
    go_wp2_with fail
    go_meet
    case rel => exact ⟨rfl, rfl, HH.out⟩
  case rest =>
    obtain ⟨rfl, rfl, hB⟩ := hcut
    obtain ⟨T, rfl⟩ : ∃ T, T = wc := ⟨_, rfl⟩
    have k0 : T.cell? ⟨gx, 0, none⟩ = some (.int .i64 x.kind) := (hB.cell (p := ⟨gx, 0, none⟩) lgx).trans x0
    have HB := Lib.hid (HBV.out.trans (hB.mono HBV.out.size))
    have hr := HR.out
    generalize x.kind = kd at *
    clear hB HR x0 x1 x2 x3 x4 x5 x6 x7 x8 x9 HIN HOUT HBX
    cases h1 : ((kd == 1) != (ni == 0))
    · rw [h1, if_neg Bool.false_ne_true] at hr
      have e1 : (kd == 1) = (ni == 0) := by simpa using h1
      have e0 : ((ni : Int) == 0) = (ni == 0) := by cases ni <;> rfl
      cases h2 : (kd == 2)
      · rw [if_neg (by simpa using h2)] at hr
        cases h4 : (kd == 4)
        · cases h5 : (kd == 5)
          · cases h6 : (kd == 6)
            · rw [if_neg (by simp at h4 h5 h6; omega)] at hr
              cases ho : (no == 1)
              · rw [if_neg (by simpa using ho)] at hr
                subst hr
                have ho' : ((no : Int) == 1) = false := by simp at ho ⊢ <;> omega
                clear ho
                first
                  | (cases hni : (ni == 0) <;> cases hk1 : (kd == 1) <;> first
                      | (exfalso; rw [hni, hk1] at e1; exact absurd e1 (by decide))
                      | (rw [hni] at e0; clear e1; go_wp2_with fail; all_goals (go_ret; exact ⟨rfl, HB.out⟩)))
              · rw [if_pos (by simpa using ho)] at hr
                subst hr
                have ho' : ((no : Int) == 1) = true := by simp at ho ⊢ <;> omega
                clear ho
                first
                  | (cases hni : (ni == 0) <;> cases hk1 : (kd == 1) <;> first
                      | (exfalso; rw [hni, hk1] at e1; exact absurd e1 (by decide))
                      | (rw [hni] at e0; clear e1; go_wp2_with fail; all_goals (go_ret; exact ⟨rfl, HB.out⟩)))
            · rw [if_pos (by simp at h6; omega)] at hr
              cases ho : (no == 0)
              · rw [if_neg (by simpa using ho)] at hr
                subst hr
                have ho' : ((no : Int) == 0) = false := by simp at ho ⊢ <;> omega
                clear ho
                first
                  | (cases hni : (ni == 0) <;> cases hk1 : (kd == 1) <;> first
                      | (exfalso; rw [hni, hk1] at e1; exact absurd e1 (by decide))
                      | (rw [hni] at e0; clear e1; go_wp2_with fail; all_goals (go_ret; exact ⟨rfl, HB.out⟩)))
              · rw [if_pos (by simpa using ho)] at hr
                subst hr
                have ho' : ((no : Int) == 0) = true := by simp at ho ⊢ <;> omega
                clear ho
                first
                  | (cases hni : (ni == 0) <;> cases hk1 : (kd == 1) <;> first
                      | (exfalso; rw [hni, hk1] at e1; exact absurd e1 (by decide))
                      | (rw [hni] at e0; clear e1; go_wp2_with fail; all_goals (go_ret; exact ⟨rfl, HB.out⟩)))
          · rw [if_pos (by simp at h5; omega)] at hr
            cases ho : (no == 0)
            · rw [if_neg (by simpa using ho)] at hr
              subst hr
              have ho' : ((no : Int) == 0) = false := by simp at ho ⊢ <;> omega
              clear ho
              first
                | (cases hni : (ni == 0) <;> cases hk1 : (kd == 1) <;> first
                    | (exfalso; rw [hni, hk1] at e1; exact absurd e1 (by decide))
                    | (rw [hni] at e0; clear e1; go_wp2_with fail; all_goals (go_ret; exact ⟨rfl, HB.out⟩)))
            · rw [if_pos (by simpa using ho)] at hr
              subst hr
              have ho' : ((no : Int) == 0) = true := by simp at ho ⊢ <;> omega
              clear ho
              first
                | (cases hni : (ni == 0) <;> cases hk1 : (kd == 1) <;> first
                    | (exfalso; rw [hni, hk1] at e1; exact absurd e1 (by decide))
                    | (rw [hni] at e0; clear e1; go_wp2_with fail; all_goals (go_ret; exact ⟨rfl, HB.out⟩)))
        · rw [if_pos (by simp at h4; omega)] at hr
          cases ho : (no == 0)
          · rw [if_neg (by simpa using ho)] at hr
            subst hr
            have ho' : ((no : Int) == 0) = false := by simp at ho ⊢ <;> omega
            clear ho
            first
              | (cases hni : (ni == 0) <;> cases hk1 : (kd == 1) <;> first
                  | (exfalso; rw [hni, hk1] at e1; exact absurd e1 (by decide))
                  | (rw [hni] at e0; clear e1; go_wp2_with fail; all_goals (go_ret; exact ⟨rfl, HB.out⟩)))
          · rw [if_pos (by simpa using ho)] at hr
            subst hr
            have ho' : ((no : Int) == 0) = true := by simp at ho ⊢ <;> omega
            clear ho
            first
              | (cases hni : (ni == 0) <;> cases hk1 : (kd == 1) <;> first
                  | (exfalso; rw [hni, hk1] at e1; exact absurd e1 (by decide))
                  | (rw [hni] at e0; clear e1; go_wp2_with fail; all_goals (go_ret; exact ⟨rfl, HB.out⟩)))
      · rw [if_pos (by simpa using h2)] at hr
        cases ho : (no == 0)
        · rw [if_neg (by simpa using ho)] at hr
          subst hr
          have ho' : ((no : Int) == 0) = false := by simp at ho ⊢ <;> omega
          clear ho
          first
            | (cases hni : (ni == 0) <;> cases hk1 : (kd == 1) <;> first
                | (exfalso; rw [hni, hk1] at e1; exact absurd e1 (by decide))
                | (rw [hni] at e0; clear e1; go_wp2_with fail; all_goals (go_ret; exact ⟨rfl, HB.out⟩)))
        · rw [if_pos (by simpa using ho)] at hr
          subst hr
          have ho' : ((no : Int) == 0) = true := by simp at ho ⊢ <;> omega
          clear ho
          first
            | (cases hni : (ni == 0) <;> cases hk1 : (kd == 1) <;> first
                | (exfalso; rw [hni, hk1] at e1; exact absurd e1 (by decide))
                | (rw [hni] at e0; clear e1; go_wp2_with fail; all_goals (go_ret; exact ⟨rfl, HB.out⟩)))
    · rw [h1, if_pos rfl] at hr
      subst hr
      have e0 : ((ni : Int) == 0) = (ni == 0) := by cases ni <;> rfl
      cases hni : (ni == 0) <;> cases hk1 : (kd == 1) <;> first
        | (exfalso; rw [hni, hk1] at h1; exact absurd h1 (by decide))
        | (rw [hni] at e0; clear h1; go_wp2_with fail; all_goals (go_ret; exact ⟨rfl, HB.out⟩))
end Go.Proofs.Ytljmghaplnkohaa
namespace Go.Proofs.Ytljmghaplnkohaa
open Go.RowKit
attribute [local go_sem ↓] Go.wp_at_zero Go.wp_at_succ

set_option maxRecDepth 100000 in
set_option maxHeartbeats 8000000 in
theorem event_any {w : World} {vl vs : Value} {l : List ItemD} {s : List SeqD} (id : ByteArray) (hl : Rd w (itemsD l) vl) (hs : Rd w (seqsD s) vs) :
    Calls Try.prog 82 #[vl, vs, .string id] w fun e w' => e = .returned (.bool (evF l s id)) ∧ Below w.heap.size w w' := by
  obtain ⟨AL, cL, rfl⟩ := rd_form hl
  obtain ⟨AQ, cQ, rfl, hql, hqm, hat⟩ := rd_at seqC_len hs
  have hsm : s.length ≤ maxLen := by omega
  unfold maxLen at hsm
  obtain ⟨r, hr⟩ : ∃ r, r = evF l s id := ⟨_, rfl⟩
  rw [← hr]
  unfold evF at hr
  have hout := out_any id hs
  change Calls _ _ _ _ (fun e w' => e = .returned (.int .i64 (outN s id)) ∧ _) at hout
  have hole := outN_le s id
  generalize outN s id = no at *
  have HR := Lib.hid hr
  have HOUT := Lib.hid hout
  have HAT := Lib.hid hat
  have HL := Lib.hid hl
  clear hr hout hat hl hs hql hqm
  go_enter Try.func82, Try.ntmps82
  go_wp2_with fail
  refine HOUT.out.mono ?_
  rintro e w1 ⟨rfl, hb1⟩
  have HB1 := Lib.hid hb1
  clear hb1 HOUT
  by_cases h2 : no < 2
  · have hr := HR.out
    rw [show decide (2 ≤ no) = false by simp; omega, Bool.false_and] at hr
    subst hr
    have hnb : decide ((no : Int) < 2) = true := by simp; omega
    clear HR
    go_wp2_with fail
    go_ret
    exact ⟨rfl, HB1.out⟩
  · have hr := HR.out
    rw [show decide (2 ≤ no) = true by simp; omega, Bool.true_and] at hr
    have hnb : decide ((no : Int) < 2) = false := by simp; omega
    have HR := Lib.hid hr
    clear hr h2
    go_wp2_with fail
    go_loopw [16] (fun kv wr => ∃ k : Nat, k ≤ s.length ∧ kv = .int .i64 k ∧ Hid ((s.drop k).all (evQ l id) = r) ∧ Below w1.heap.size w1 wr) (fun kv _ => s.length - (intOf kv).toNat)
    case atStart => exact ⟨0, Nat.zero_le _, rfl, HR.out.symm, Below.refl _ _⟩
    case round =>
      obtain ⟨k, hk, rfl, hinv, hB⟩ := hrel
      obtain ⟨T, rfl⟩ : ∃ T, T = wr := ⟨_, rfl⟩
      have bT := HB1.out.trans (hB.mono HB1.out.size)
      by_cases hlt : k < s.length
      · obtain ⟨b, vs, rfl, hbl, _, hvs, hcell⟩ := HAT.out k hlt
        have hi := hinv.out
        rw [List.drop_eq_getElem_cons hlt, List.all_cons] at hi
        obtain ⟨q, hq⟩ : ∃ q, q = s[k] := ⟨_, rfl⟩
        rw [← hq] at hvs hi
        obtain rfl := rd_seqC hvs
        have x0 : T.cell? ⟨b, k * 3, none⟩ = some (.string q.id) := (bT.cell (p := ⟨b, k * 3, none⟩) hbl).trans (hcell 0 (by omega))
        have x1 : T.cell? ⟨b, k * 3 + 1, none⟩ = some (.string q.src) := (bT.cell (p := ⟨b, k * 3 + 1, none⟩) hbl).trans (hcell 1 (by omega))
        have x2 : T.cell? ⟨b, k * 3 + 2, none⟩ = some (.string q.dst) := (bT.cell (p := ⟨b, k * 3 + 2, none⟩) hbl).trans (hcell 2 (by omega))
        obtain ⟨T2, hT2⟩ : ∃ T', T' = T.alloc (.cells #[.string q.id, .string q.src, .string q.dst] 33) := ⟨_, rfl⟩
        obtain ⟨gq, hgq⟩ : ∃ g, g = T.heap.size := ⟨_, rfl⟩
        have hbq : Blk T2 gq 33 #[.string q.id, .string q.src, .string q.dst] := by rw [hT2, hgq]; exact Blk.new _ _ _
        have bT2 : Below T.heap.size T T2 := by rw [hT2]; exact (Below.refl _ _).alloc (Nat.le_refl _) _
        have bVT := bT.trans (bT2.mono bT.size)
        have HB2 := Lib.hid (hB.trans (bT2.mono hB.size))
        have hcall := idsItem_any q.dst (Rd.below bVT _ _ HL.out)
        change Calls _ _ _ _ (fun e w' => e = .returned (.int .i64 (itemK l q.dst)) ∧ _) at hcall
        have hin := findFrom_inI (fun y : ItemD => eqS y.id q.dst) l 0
        change (¬ itemK l q.dst < 0 → ∃ i, i < l.length ∧ itemK l q.dst = ((0 + i : Nat) : Int)) at hin
        unfold evQ at hi
        generalize itemK l q.dst = ik at *
        have q0 : T2.cell? ⟨gq, 0, none⟩ = some (.string q.id) := hbq.cell 0
        have q1 : T2.cell? ⟨gq, 1, none⟩ = some (.string q.src) := hbq.cell 1
        have q2 : T2.cell? ⟨gq, 2, none⟩ = some (.string q.dst) := hbq.cell 2
        have HCALL := Lib.hid hcall
        have HI := Lib.hid hi
        have HIN := Lib.hid hin
        have HBT := Lib.hid bVT
        have HT2 := Lib.hid hT2.symm
        have HGQ := Lib.hid hgq.symm
        have hkI : (k : Int) < (s.length : Int) := by omega
        clear hcall hi hin hT2 hgq hbq bT2 bVT hvs hcell hq hinv bT hB
        go_upto_region 6 with fail
        rw [HT2.out, HGQ.out]
        clear HT2
        cases hs : (q.src.toList == id.toList)
        · have hi := HI.out
          rw [show eqS q.src id = false from hs, Bool.not_false, Bool.true_or, Bool.true_and] at hi
          have HN := Lib.hid hi
          clear HI hi HIN HCALL
          go_wp2_with fail
          go_roundw
          case rel => exact ⟨k + 1, by omega, by go_num, HN, HB2.out⟩
          case measure => simp [intOf]; omega
        · have hi := HI.out
          rw [show eqS q.src id = true from hs, Bool.not_true, Bool.false_or] at hi
          have HI := Lib.hid hi
          clear hi
          go_wp2_with fail
          refine HCALL.out.mono ?_
          rintro e w5 ⟨rfl, hb5⟩
          have HB5 := Lib.hid (HB2.out.trans (hb5.mono HB2.out.size))
          have HBT5 := Lib.hid (HBT.out.trans (hb5.mono HBT.out.size))
          clear hb5 HCALL q0 q1 q2 x0 x1 x2
          have HF := Lib.hid (HBT5.out)
          by_cases hk0 : ik < 0
          · have hi := HI.out
            rw [show decide (0 ≤ ik) = false by simp; omega, Bool.false_and, Bool.false_and] at hi
            subst hi
            have hkb : decide (ik < 0) = true := by simpa using hk0
            clear HI HIN HR
            go_wp2_with fail
            go_ret
            exact ⟨rfl, HF.out⟩
          · obtain ⟨j, hj, hjk⟩ := HIN.out (by omega)
            rw [Nat.zero_add] at hjk
            subst hjk
            have hi := HI.out
            rw [show decide (0 ≤ (j : Int)) = true by simp, Bool.true_and] at hi
            have hkb : decide ((j : Int) < 0) = false := by simp
            have hka : kindAt l (j : Int) = l[j].kind := by unfold kindAt; rw [Int.toNat_natCast, List.getD_eq_getElem?_getD, List.getElem?_eq_getElem hj]; rfl
            rw [hka] at hi
            obtain ⟨_, _, hlv, _, _, hatL⟩ := rd_at itemC_len HL.out
            injection hlv with e1 e2 e3
            clear e2
            subst e1
            subst e3
            obtain ⟨bL, vs, rfl, hbL, _, hvs, hcell⟩ := hatL j hj
            obtain ⟨v3, v4, v7, v8, v9, rfl, _⟩ := rd_itemC.1 hvs
            have k0 : w5.cell? ⟨bL, j * 10, none⟩ = some (.int .i64 l[j].kind) := (HBT5.out.cell (p := ⟨bL, j * 10, none⟩) hbL).trans (hcell 0 (by omega))
            have hjI : (j : Int) < (l.length : Int) := by omega
            generalize l[j].kind = kd at *
            have HI := Lib.hid hi
            clear hi hka hvs hcell hatL HIN HR
            cases h3 : (kd == 3)
            · have hi := HI.out
              rw [h3, Bool.false_and] at hi
              subst hi
              clear HI
              go_wp2_with fail
              go_ret
              exact ⟨rfl, HF.out⟩
            · have hi := HI.out
              rw [h3, Bool.true_and] at hi
              have HN := Lib.hid hi
              clear HI hi
              go_wp2_with fail
              go_roundw
              case rel => exact ⟨k + 1, by omega, by go_num, HN, HB5.out⟩
              case measure => simp [intOf]; omega
      · have hi := hinv.out
        rw [List.drop_eq_nil_of_le (by omega), List.all_nil] at hi
        subst hi
        have HF := Lib.hid bT
        clear bT hB hinv
        go_wp2_with fail
        go_ret
        exact ⟨rfl, HF.out⟩
end Go.Proofs.Ytljmghaplnkohaa
namespace Go.Proofs.Ytljmghaplnkohaa
open Go.RowKit
attribute [local go_sem ↓] Go.wp_at_zero Go.wp_at_succ

def flowK (c : ChorD) (k : Int) : FlowD := c.flows.getD k.toNat ⟨⟨#[]⟩, ⟨#[]⟩, ⟨#[]⟩, ⟨#[]⟩⟩
def flOk (c : ChorD) (a b : ByteArray) : Nat → List ByteArray → Bool
  | _, [] => true
  | n, f :: r => decide (0 ≤ flowAt c f) && ((eqS (flowK c (flowAt c f)).src (if n = 1 then b else a) && eqS (flowK c (flowAt c f)).dst (if n = 1 then a else b)) && flOk c a b (n + 1) r)
def part0 (x : ItemD) : ByteArray := x.parts.getD 0 ⟨#[]⟩
def part1 (x : ItemD) : ByteArray := x.parts.getD 1 ⟨#[]⟩
def otherF (x : ItemD) : ByteArray := if eqS (part0 x) x.first = true then part1 x else part0 x
def taskF (c : ChorD) (x : ItemD) : Bool :=
  if x.parts.length ≠ 2 then false else if eqS (part0 x) (part1 x) = true then false else if x.parts.any (eqS · x.first) = false then false
  else if x.flows.length < 1 then false else if 2 < x.flows.length then false else flOk c x.first (otherF x) 0 x.flows
set_option maxRecDepth 100000 in
set_option maxHeartbeats 16000000 in
theorem ruleTask_any {w : World} (c : ChorD) (x : ItemD) {AP : Option Addr} {cP : Nat} {AF : Option Addr} {cF : Nat} {AI : Option Addr} {cI : Nat} {AS : Option Addr} {cS : Nat} {A3 A4 A7 A8 A9 : Option Addr} {c3 c4 c7 c8 c9 : Nat} (hF : Rd w (flowsD c.flows) (.slice AF c.flows.length cF)) (hX : ItemV w x (.slice A3 x.parts.length c3) (.slice A4 x.flows.length c4) (.slice A7 x.maps.length c7) (.slice A8 x.items.length c8) (.slice A9 x.seqs.length c9)) :
    Calls Try.prog 83 #[.agg #[.string c.id, .slice AP c.parts.length cP, .slice AF c.flows.length cF, .slice AI c.items.length cI, .slice AS c.seqs.length cS], .agg #[.int .i64 x.kind, .string x.id, .string x.first, .slice A3 x.parts.length c3, .slice A4 x.flows.length c4, .bool x.loop, .string x.called, .slice A7 x.maps.length c7, .slice A8 x.items.length c8, .slice A9 x.seqs.length c9]] w fun e w' => e = .returned (.bool (taskF c x)) ∧ Below w.heap.size w w' := by
  obtain ⟨V, hV⟩ : ∃ V, V = (w.alloc (.cells #[.string c.id, .slice AP c.parts.length cP, .slice AF c.flows.length cF, .slice AI c.items.length cI, .slice AS c.seqs.length cS] 54)).alloc (.cells #[.int .i64 x.kind, .string x.id, .string x.first, .slice A3 x.parts.length c3, .slice A4 x.flows.length c4, .bool x.loop, .string x.called, .slice A7 x.maps.length c7, .slice A8 x.items.length c8, .slice A9 x.seqs.length c9] 30) := ⟨_, rfl⟩
  obtain ⟨gc, hgc⟩ : ∃ g, g = w.heap.size := ⟨_, rfl⟩
  have z1 : (w.alloc (.cells #[.string c.id, .slice AP c.parts.length cP, .slice AF c.flows.length cF, .slice AI c.items.length cI, .slice AS c.seqs.length cS] 54)).heap.size = w.heap.size + 1 := by simp
  have bV : Below w.heap.size w V := by rw [hV]; exact ((Below.refl _ _).alloc (Nat.le_refl _) _).alloc (by simp) _
  have hbc : Blk V gc 54 #[.string c.id, .slice AP c.parts.length cP, .slice AF c.flows.length cF, .slice AI c.items.length cI, .slice AS c.seqs.length cS] := by rw [hV, hgc]; exact (Blk.new w _ _).alloc _
  have hbx : Blk V (gc + 1) 30 #[.int .i64 x.kind, .string x.id, .string x.first, .slice A3 x.parts.length c3, .slice A4 x.flows.length c4, .bool x.loop, .string x.called, .slice A7 x.maps.length c7, .slice A8 x.items.length c8, .slice A9 x.seqs.length c9] := by
    have := Blk.new (w.alloc (.cells #[.string c.id, .slice AP c.parts.length cP, .slice AF c.flows.length cF, .slice AI c.items.length cI, .slice AS c.seqs.length cS] 54)) 30 #[.int .i64 x.kind, .string x.id, .string x.first, .slice A3 x.parts.length c3, .slice A4 x.flows.length c4, .bool x.loop, .string x.called, .slice A7 x.maps.length c7, .slice A8 x.items.length c8, .slice A9 x.seqs.length c9]
    rw [z1] at this
    rw [hV, hgc]; exact this
  obtain ⟨r, hr⟩ : ∃ r, r = taskF c x := ⟨_, rfl⟩
  rw [← hr]
  unfold taskF at hr
  have hFV := Rd.below bV _ _ hF
  have hXV := hX.below bV
  obtain ⟨_, _, h3v, h3l, h3m, hat3⟩ := rd_at strC_len hXV.1
  injection h3v with e1 e2 e3
  clear e2
  subst e1
  subst e3
  obtain ⟨_, _, h4v, h4l, h4m, hat4⟩ := rd_at strC_len hXV.2.1
  injection h4v with e1 e2 e3
  clear e2
  subst e1
  subst e3
  have hm3 : x.parts.length ≤ maxLen := by omega
  have hm4 : x.flows.length ≤ maxLen := by omega
  unfold maxLen at hm3 hm4
  have x0 : V.cell? ⟨(gc + 1), 0, none⟩ = some (.int .i64 x.kind) := hbx.cell 0
  have x1 : V.cell? ⟨(gc + 1), 1, none⟩ = some (.string x.id) := hbx.cell 1
  have x2 : V.cell? ⟨(gc + 1), 2, none⟩ = some (.string x.first) := hbx.cell 2
  have x3 : V.cell? ⟨(gc + 1), 3, none⟩ = some (.slice A3 x.parts.length c3) := hbx.cell 3
  have x4 : V.cell? ⟨(gc + 1), 4, none⟩ = some (.slice A4 x.flows.length c4) := hbx.cell 4
  have x5 : V.cell? ⟨(gc + 1), 5, none⟩ = some (.bool x.loop) := hbx.cell 5
  have x6 : V.cell? ⟨(gc + 1), 6, none⟩ = some (.string x.called) := hbx.cell 6
  have x7 : V.cell? ⟨(gc + 1), 7, none⟩ = some (.slice A7 x.maps.length c7) := hbx.cell 7
  have x8 : V.cell? ⟨(gc + 1), 8, none⟩ = some (.slice A8 x.items.length c8) := hbx.cell 8
  have x9 : V.cell? ⟨(gc + 1), 9, none⟩ = some (.slice A9 x.seqs.length c9) := hbx.cell 9
  have y0 : V.cell? ⟨gc, 0, none⟩ = some (.string c.id) := hbc.cell 0
  have y1 : V.cell? ⟨gc, 1, none⟩ = some (.slice AP c.parts.length cP) := hbc.cell 1
  have y2 : V.cell? ⟨gc, 2, none⟩ = some (.slice AF c.flows.length cF) := hbc.cell 2
  have y3 : V.cell? ⟨gc, 3, none⟩ = some (.slice AI c.items.length cI) := hbc.cell 3
  have y4 : V.cell? ⟨gc, 4, none⟩ = some (.slice AS c.seqs.length cS) := hbc.cell 4
  have lgx := hbx.lt
  have lgc := hbc.lt
  have HR := Lib.hid hr
  have HFV := Lib.hid hFV
  have HX3 := Lib.hid hXV.1
  have HAT3 := Lib.hid hat3
  have HAT4 := Lib.hid hat4
  have HBV := Lib.hid bV
  have HBC := Lib.hid hbc
  have HBX := Lib.hid hbx
  have HV := Lib.hid hV.symm
  have HG := Lib.hid hgc.symm
  clear hr hFV hXV hat3 hat4 bV hbc hbx hV hgc hF hX z1 h3l h3m h4l h4m
  go_enter Try.func83, Try.ntmps83
  go_upto_region 1 with fail
  rw [HV.out, HG.out]
  clear HV
  by_cases k2 : x.parts.length = 2
  · have hr := HR.out
    rw [if_neg (by omega)] at hr
    obtain ⟨p0, p1, hp⟩ : ∃ a b, x.parts = [a, b] := by
      match hh : x.parts, k2 with
      | [a, b], _ => exact ⟨a, b, rfl⟩
    have hp0 : part0 x = p0 := by unfold part0; rw [hp]; rfl
    have hp1 : part1 x = p1 := by unfold part1; rw [hp]; rfl
    obtain ⟨bP, vs, rfl, hbP, _, hvs, hcell⟩ := HAT3.out 0 (by omega)
    have e00 : x.parts[0] = p0 := by simp [hp]
    rw [e00] at hvs
    obtain rfl := rd_strC hvs
    obtain ⟨_, vs, h1', _, _, hvs1, hcell1⟩ := HAT3.out 1 (by omega)
    injection h1' with h1'
    injection h1' with h1'
    subst h1'
    have e01 : x.parts[1] = p1 := by simp [hp]
    rw [e01] at hvs1
    obtain rfl := rd_strC hvs1
    have w0 : V.cell? ⟨bP, 0, none⟩ = some (.string p0) := hcell 0 (by omega)
    have w1 : V.cell? ⟨bP, 1, none⟩ = some (.string p1) := hcell1 0 (by omega)
    have hcont := fun U (k : Below V.heap.size V U) => contains_any x.first (Rd.below k _ _ HX3.out)
    obtain ⟨ct, hct⟩ : ∃ b, b = x.parts.any (eqS · x.first) := ⟨_, rfl⟩
    rw [← hct] at hr hcont
    rw [hp0, hp1] at hr
    have hoth : otherF x = if eqS p0 x.first = true then p1 else p0 := by unfold otherF; rw [hp0, hp1]
    have HOTH := Lib.hid hoth
    have HCT := Lib.hid hcont
    have HR2 := Lib.hid hr
    have HP := Lib.hid hp
    have hlen2 : ((x.parts.length : Int) == 2) = true := by rw [k2]; rfl
    rw [k2] at x3 HCT
    have HR := HR2
    clear hr hp hp0 hp1 hvs hcell e00 hvs1 hcell1 e01 hcont hct hoth HAT3 HX3 hlen2 k2 hm3 HR2
    have HYB := Lib.hid (fun U (hSw : Below V.heap.size V U) => And.intro ((hSw.cell (p := ⟨gc + 1, 3, none⟩) lgx).trans x3) (And.intro ((hSw.cell (p := ⟨gc + 1, 2, none⟩) lgx).trans x2) (And.intro ((hSw.cell (p := ⟨gc + 1, 4, none⟩) lgx).trans x4) (And.intro ((hSw.cell (p := ⟨bP, 0, none⟩) hbP).trans w0) ((hSw.cell (p := ⟨bP, 1, none⟩) hbP).trans w1)))))
    cases hpp : (p0.toList == p1.toList)
    · have hr := HR.out
      rw [show eqS p0 p1 = false from hpp, if_neg Bool.false_ne_true] at hr
      cases ct
      · rw [if_pos rfl] at hr
        subst hr
        clear HR
        refine wp_region_HT 34 (fun U => Below V.heap.size V U) (by kernel_rfl) (by decide) ((Below.refl _ _).drew) (fun hHeld => ?_)
        refine ht_take 0 (v := ?vc_1) rfl (by kernel_rfl) (fun _ _ _ h => h) (Or.inl ⟨by rfl, ?hc_1⟩) hHeld ?rc_1
        case hc_1 => ((intro U hSw; have ⟨q3, q2, q4, r0, r1⟩ := HYB.out U hSw; go_simp); (try (with_reducible rfl)))
        try simp only [Act.put, List.setIfInBounds_toArray, List.set_cons_zero, List.set_cons_succ]
        refine ht_take 1 (v := ?vc_2) rfl (by kernel_rfl) (fun _ _ _ h => h) (Or.inl ⟨by rfl, ?hc_2⟩) hHeld ?rc_2
        case hc_2 => ((intro U hSw; have ⟨q3, q2, q4, r0, r1⟩ := HYB.out U hSw; go_simp); (try (with_reducible rfl)))
        try simp only [Act.put, List.setIfInBounds_toArray, List.set_cons_zero, List.set_cons_succ]
        refine ht_take 2 (v := ?vc_3) rfl (by kernel_rfl) (fun _ _ _ h => h) (Or.inl ⟨by rfl, ?hc_3⟩) hHeld ?rc_3
        case hc_3 => ((intro U hSw; have ⟨q3, q2, q4, r0, r1⟩ := HYB.out U hSw; go_simp); (try (with_reducible rfl)))
        try simp only [Act.put, List.setIfInBounds_toArray, List.set_cons_zero, List.set_cons_succ]
        refine ht_take 3 (v := ?vc_4) rfl (by kernel_rfl) (fun _ _ _ h => h) (Or.inl ⟨by rfl, ?hc_4⟩) hHeld ?rc_4
        case hc_4 => ((intro U hSw; have ⟨q3, q2, q4, r0, r1⟩ := HYB.out U hSw; go_simp); (try (with_reducible rfl)))
        try simp only [Act.put, List.setIfInBounds_toArray, List.set_cons_zero, List.set_cons_succ]
        refine ht_take 4 (v := ?vc_5) rfl (by kernel_rfl) (fun _ _ _ h => h) (Or.inl ⟨by rfl, ?hc_5⟩) hHeld ?rc_5
        case hc_5 => ((intro U hSw; have ⟨q3, q2, q4, r0, r1⟩ := HYB.out U hSw; go_simp); (try (with_reducible rfl)))
        try simp only [Act.put, List.setIfInBounds_toArray, List.set_cons_zero, List.set_cons_succ]
        refine ht_take 5 (v := ?vc_6) rfl (by kernel_rfl) (fun _ _ _ h => h) (Or.inl ⟨by rfl, ?hc_6⟩) hHeld ?rc_6
        case hc_6 => ((intro U hSw; have ⟨q3, q2, q4, r0, r1⟩ := HYB.out U hSw; go_simp); (try (with_reducible rfl)))
        try simp only [Act.put, List.setIfInBounds_toArray, List.set_cons_zero, List.set_cons_succ]
        refine ht_take 6 (v := ?vc_7) rfl (by kernel_rfl) (fun _ _ _ h => h) (Or.inl ⟨by rfl, ?hc_7⟩) hHeld ?rc_7
        case hc_7 => ((intro U hSw; have ⟨q3, q2, q4, r0, r1⟩ := HYB.out U hSw; go_simp); (try (with_reducible rfl)))
        try simp only [Act.put, List.setIfInBounds_toArray, List.set_cons_zero, List.set_cons_succ]
        refine ht_take 7 (v := ?vc_8) rfl (by kernel_rfl) (fun _ _ _ h => h) (Or.inl ⟨by rfl, ?hc_8⟩) hHeld ?rc_8
        case hc_8 => ((intro U hSw; have ⟨q3, q2, q4, r0, r1⟩ := HYB.out U hSw; go_simp); (try (with_reducible rfl)))
        try simp only [Act.put, List.setIfInBounds_toArray, List.set_cons_zero, List.set_cons_succ]
        refine ht_take 8 (v := ?vc_9) rfl (by kernel_rfl) (fun _ _ _ h => h) (Or.inl ⟨by rfl, ?hc_9⟩) hHeld ?rc_9
        case hc_9 => ((intro U hSw; have ⟨q3, q2, q4, r0, r1⟩ := HYB.out U hSw; go_simp); (try (with_reducible rfl)))
        try simp only [Act.put, List.setIfInBounds_toArray, List.set_cons_zero, List.set_cons_succ]
        refine ht_take 9 (v := ?vc_10) rfl (by kernel_rfl) (fun _ _ _ h => h) (Or.inl ⟨by rfl, ?hc_10⟩) hHeld ?rc_10
        case hc_10 => ((intro U hSw; have ⟨q3, q2, q4, r0, r1⟩ := HYB.out U hSw; go_simp); (try (with_reducible rfl)))
        try simp only [Act.put, List.setIfInBounds_toArray, List.set_cons_zero, List.set_cons_succ]
        refine ht_take 10 (v := ?vc_11) rfl (by kernel_rfl) (fun _ _ _ h => h) (Or.inl ⟨by rfl, ?hc_11⟩) hHeld ?rc_11
        case hc_11 => ((intro U hSw; have ⟨q3, q2, q4, r0, r1⟩ := HYB.out U hSw; go_simp); (try (with_reducible rfl)))
        try simp only [Act.put, List.setIfInBounds_toArray, List.set_cons_zero, List.set_cons_succ]
        refine ht_take 11 (v := ?vc_12) rfl (by kernel_rfl) (fun _ _ _ h => h) (Or.inl ⟨by rfl, ?hc_12⟩) hHeld ?rc_12
        case hc_12 => ((intro U hSw; have ⟨q3, q2, q4, r0, r1⟩ := HYB.out U hSw; go_simp); (try (with_reducible rfl)))
        try simp only [Act.put, List.setIfInBounds_toArray, List.set_cons_zero, List.set_cons_succ]
        refine ht_take 12 (v := ?vc_13) rfl (by kernel_rfl) (fun _ _ _ h => h) (Or.inl ⟨by rfl, ?hc_13⟩) hHeld ?rc_13
        case hc_13 => ((intro U hSw; have ⟨q3, q2, q4, r0, r1⟩ := HYB.out U hSw; go_simp); (try (with_reducible rfl)))
        try simp only [Act.put, List.setIfInBounds_toArray, List.set_cons_zero, List.set_cons_succ]
        refine ht_take 13 (v := ?vc_14) rfl (by kernel_rfl) (fun _ _ _ h => h) (Or.inl ⟨by rfl, ?hc_14⟩) hHeld ?rc_14
        case hc_14 => ((intro U hSw; have ⟨q3, q2, q4, r0, r1⟩ := HYB.out U hSw; go_simp); (try (with_reducible rfl)))
        try simp only [Act.put, List.setIfInBounds_toArray, List.set_cons_zero, List.set_cons_succ]
        refine ht_take 14 (v := ?vc_15) rfl (by kernel_rfl) (fun _ _ _ h => h) (Or.inl ⟨by rfl, ?hc_15⟩) hHeld ?rc_15
        case hc_15 => ((intro U hSw; have ⟨q3, q2, q4, r0, r1⟩ := HYB.out U hSw; go_simp); (try (with_reducible rfl)))
        try simp only [Act.put, List.setIfInBounds_toArray, List.set_cons_zero, List.set_cons_succ]
        refine ht_take 15 (v := ?vc_16) rfl (by kernel_rfl) (fun _ _ _ h => h) (Or.inl ⟨by rfl, ?hc_16⟩) hHeld ?rc_16
        case hc_16 => ((intro U hSw; have ⟨q3, q2, q4, r0, r1⟩ := HYB.out U hSw; go_simp); (try (with_reducible rfl)))
        try simp only [Act.put, List.setIfInBounds_toArray, List.set_cons_zero, List.set_cons_succ]
        refine ht_take 16 (v := ?vc_17) rfl (by kernel_rfl) (fun _ _ _ h => h) (Or.inl ⟨by rfl, ?hc_17⟩) hHeld ?rc_17
        case hc_17 => ((intro U hSw; have ⟨q3, q2, q4, r0, r1⟩ := HYB.out U hSw; go_simp); (try (with_reducible rfl)))
        try simp only [Act.put, List.setIfInBounds_toArray, List.set_cons_zero, List.set_cons_succ]
        refine ht_take 17 (v := ?vc_18) rfl (by kernel_rfl) (fun _ _ _ h => h) (Or.inl ⟨by rfl, ?hc_18⟩) hHeld ?rc_18
        case hc_18 => ((intro U hSw; have ⟨q3, q2, q4, r0, r1⟩ := HYB.out U hSw; go_simp); (try (with_reducible rfl)))
        try simp only [Act.put, List.setIfInBounds_toArray, List.set_cons_zero, List.set_cons_succ]
        refine ht_take 18 (v := ?vc_19) rfl (by kernel_rfl) (fun _ _ _ h => h) (Or.inl ⟨by rfl, ?hc_19⟩) hHeld ?rc_19
        case hc_19 => ((intro U hSw; have ⟨q3, q2, q4, r0, r1⟩ := HYB.out U hSw; go_simp); (try (with_reducible rfl)))
        try simp only [Act.put, List.setIfInBounds_toArray, List.set_cons_zero, List.set_cons_succ]
        refine ht_take 19 (v := ?vc_20) rfl (by kernel_rfl) (fun _ _ _ h => h) (Or.inl ⟨by rfl, ?hc_20⟩) hHeld ?rc_20
        case hc_20 => ((intro U hSw; have ⟨q3, q2, q4, r0, r1⟩ := HYB.out U hSw; go_simp); (try (with_reducible rfl)))
        try simp only [Act.put, List.setIfInBounds_toArray, List.set_cons_zero, List.set_cons_succ]
        refine ht_one 20 rfl (by kernel_rfl) (fun K hK => ?_)
        go_simp
        refine (HCT.out _ hHeld).mono ?_
        rintro e w2 ⟨rfl, rfl⟩
        go_wp2_with fail
        refine hK.out _ _ (hHeld) (fun hHeld => ?_)
        clear hK K
        try simp only [Act.put, List.setIfInBounds_toArray, List.set_cons_zero, List.set_cons_succ]
        refine ht_take 21 (v := ?vc_21) rfl (by kernel_rfl) (fun _ _ _ h => h) (Or.inl ⟨by rfl, ?hc_21⟩) hHeld ?rc_21
        case hc_21 => ((intro U hSw; have ⟨q3, q2, q4, r0, r1⟩ := HYB.out U hSw; go_simp); (try (with_reducible rfl)))
        try simp only [Act.put, List.setIfInBounds_toArray, List.set_cons_zero, List.set_cons_succ]
        refine ht_take 22 (v := ?vc_22) rfl (by kernel_rfl) (fun _ _ _ h => h) (Or.inl ⟨by rfl, ?hc_22⟩) hHeld ?rc_22
        case hc_22 => ((intro U hSw; have ⟨q3, q2, q4, r0, r1⟩ := HYB.out U hSw; go_simp); (try (with_reducible rfl)))
        try simp only [Act.put, List.setIfInBounds_toArray, List.set_cons_zero, List.set_cons_succ]
        refine ht_take 23 (v := ?vc_23) rfl (by kernel_rfl) (fun _ _ _ h => h) (Or.inl ⟨by rfl, ?hc_23⟩) hHeld ?rc_23
        case hc_23 => ((intro U hSw; have ⟨q3, q2, q4, r0, r1⟩ := HYB.out U hSw; go_simp); (try (with_reducible rfl)))
        try simp only [Act.put, List.setIfInBounds_toArray, List.set_cons_zero, List.set_cons_succ]
        refine ht_take 24 (v := undef) rfl (by kernel_rfl) (fun _ _ _ h => h) (Or.inr ⟨by rfl, rfl⟩) hHeld ?rc_24
        try simp only [Act.put, List.setIfInBounds_toArray, List.set_cons_zero, List.set_cons_succ]
        refine ht_take 25 (v := undef) rfl (by kernel_rfl) (fun _ _ _ h => h) (Or.inr ⟨by rfl, rfl⟩) hHeld ?rc_25
        try simp only [Act.put, List.setIfInBounds_toArray, List.set_cons_zero, List.set_cons_succ]
        refine ht_take 26 (v := undef) rfl (by kernel_rfl) (fun _ _ _ h => h) (Or.inr ⟨by rfl, rfl⟩) hHeld ?rc_26
        try simp only [Act.put, List.setIfInBounds_toArray, List.set_cons_zero, List.set_cons_succ]
        refine ht_take 27 (v := undef) rfl (by kernel_rfl) (fun _ _ _ h => h) (Or.inr ⟨by rfl, rfl⟩) hHeld ?rc_27
        try simp only [Act.put, List.setIfInBounds_toArray, List.set_cons_zero, List.set_cons_succ]
        refine ht_take 28 (v := ?vc_28) rfl (by kernel_rfl) (fun _ _ _ h => h) (Or.inl ⟨by rfl, ?hc_28⟩) hHeld ?rc_28
        case hc_28 => ((intro U hSw; have ⟨q3, q2, q4, r0, r1⟩ := HYB.out U hSw; go_simp); (try (with_reducible rfl)))
        try simp only [Act.put, List.setIfInBounds_toArray, List.set_cons_zero, List.set_cons_succ]
        refine ht_take 29 (v := ?vc_29) rfl (by kernel_rfl) (fun _ _ _ h => h) (Or.inl ⟨by rfl, ?hc_29⟩) hHeld ?rc_29
        case hc_29 => ((intro U hSw; have ⟨q3, q2, q4, r0, r1⟩ := HYB.out U hSw; go_simp); (try (with_reducible rfl)))
        try simp only [Act.put, List.setIfInBounds_toArray, List.set_cons_zero, List.set_cons_succ]
        refine ht_take 30 (v := undef) rfl (by kernel_rfl) (fun _ _ _ h => h) (Or.inr ⟨by rfl, rfl⟩) hHeld ?rc_30
        try simp only [Act.put, List.setIfInBounds_toArray, List.set_cons_zero, List.set_cons_succ]
        refine ht_take 31 (v := undef) rfl (by kernel_rfl) (fun _ _ _ h => h) (Or.inr ⟨by rfl, rfl⟩) hHeld ?rc_31
        try simp only [Act.put, List.setIfInBounds_toArray, List.set_cons_zero, List.set_cons_succ]
        refine ht_take 32 (v := undef) rfl (by kernel_rfl) (fun _ _ _ h => h) (Or.inr ⟨by rfl, rfl⟩) hHeld ?rc_32
        try simp only [Act.put, List.setIfInBounds_toArray, List.set_cons_zero, List.set_cons_succ]
        refine ht_take 33 (v := undef) rfl (by kernel_rfl) (fun _ _ _ h => h) (Or.inr ⟨by rfl, rfl⟩) hHeld ?rc_33
        try simp only [Act.put, List.setIfInBounds_toArray, List.set_cons_zero, List.set_cons_succ]
        refine ht_done (by kernel_rfl) rfl ?_
        have HH := Lib.hid hHeld
        clear hHeld
        go_wp2_with fail
        go_ret
        exact ⟨rfl, HBV.out.trans (HH.out.mono HBV.out.size)⟩
      · rw [if_neg (by decide)] at hr
        by_cases k1 : x.flows.length < 1
        · rw [if_pos k1] at hr
          subst hr
          have hl1 : decide ((x.flows.length : Int) < 1) = true := by simp; omega
          clear HR
          refine wp_region_HT 34 (fun U => Below V.heap.size V U) (by kernel_rfl) (by decide) ((Below.refl _ _).drew) (fun hHeld => ?_)
          refine ht_take 0 (v := ?vd_1) rfl (by kernel_rfl) (fun _ _ _ h => h) (Or.inl ⟨by rfl, ?hd_1⟩) hHeld ?rd_1
          case hd_1 => ((intro U hSw; have ⟨q3, q2, q4, r0, r1⟩ := HYB.out U hSw; go_simp); (try (with_reducible rfl)))
          try simp only [Act.put, List.setIfInBounds_toArray, List.set_cons_zero, List.set_cons_succ]
          refine ht_take 1 (v := ?vd_2) rfl (by kernel_rfl) (fun _ _ _ h => h) (Or.inl ⟨by rfl, ?hd_2⟩) hHeld ?rd_2
          case hd_2 => ((intro U hSw; have ⟨q3, q2, q4, r0, r1⟩ := HYB.out U hSw; go_simp); (try (with_reducible rfl)))
          try simp only [Act.put, List.setIfInBounds_toArray, List.set_cons_zero, List.set_cons_succ]
          refine ht_take 2 (v := ?vd_3) rfl (by kernel_rfl) (fun _ _ _ h => h) (Or.inl ⟨by rfl, ?hd_3⟩) hHeld ?rd_3
          case hd_3 => ((intro U hSw; have ⟨q3, q2, q4, r0, r1⟩ := HYB.out U hSw; go_simp); (try (with_reducible rfl)))
          try simp only [Act.put, List.setIfInBounds_toArray, List.set_cons_zero, List.set_cons_succ]
          refine ht_take 3 (v := ?vd_4) rfl (by kernel_rfl) (fun _ _ _ h => h) (Or.inl ⟨by rfl, ?hd_4⟩) hHeld ?rd_4
          case hd_4 => ((intro U hSw; have ⟨q3, q2, q4, r0, r1⟩ := HYB.out U hSw; go_simp); (try (with_reducible rfl)))
          try simp only [Act.put, List.setIfInBounds_toArray, List.set_cons_zero, List.set_cons_succ]
          refine ht_take 4 (v := ?vd_5) rfl (by kernel_rfl) (fun _ _ _ h => h) (Or.inl ⟨by rfl, ?hd_5⟩) hHeld ?rd_5
          case hd_5 => ((intro U hSw; have ⟨q3, q2, q4, r0, r1⟩ := HYB.out U hSw; go_simp); (try (with_reducible rfl)))
          try simp only [Act.put, List.setIfInBounds_toArray, List.set_cons_zero, List.set_cons_succ]
          refine ht_take 5 (v := ?vd_6) rfl (by kernel_rfl) (fun _ _ _ h => h) (Or.inl ⟨by rfl, ?hd_6⟩) hHeld ?rd_6
          case hd_6 => ((intro U hSw; have ⟨q3, q2, q4, r0, r1⟩ := HYB.out U hSw; go_simp); (try (with_reducible rfl)))
          try simp only [Act.put, List.setIfInBounds_toArray, List.set_cons_zero, List.set_cons_succ]
          refine ht_take 6 (v := ?vd_7) rfl (by kernel_rfl) (fun _ _ _ h => h) (Or.inl ⟨by rfl, ?hd_7⟩) hHeld ?rd_7
          case hd_7 => ((intro U hSw; have ⟨q3, q2, q4, r0, r1⟩ := HYB.out U hSw; go_simp); (try (with_reducible rfl)))
          try simp only [Act.put, List.setIfInBounds_toArray, List.set_cons_zero, List.set_cons_succ]
          refine ht_take 7 (v := ?vd_8) rfl (by kernel_rfl) (fun _ _ _ h => h) (Or.inl ⟨by rfl, ?hd_8⟩) hHeld ?rd_8
          case hd_8 => ((intro U hSw; have ⟨q3, q2, q4, r0, r1⟩ := HYB.out U hSw; go_simp); (try (with_reducible rfl)))
          try simp only [Act.put, List.setIfInBounds_toArray, List.set_cons_zero, List.set_cons_succ]
          refine ht_take 8 (v := ?vd_9) rfl (by kernel_rfl) (fun _ _ _ h => h) (Or.inl ⟨by rfl, ?hd_9⟩) hHeld ?rd_9
          case hd_9 => ((intro U hSw; have ⟨q3, q2, q4, r0, r1⟩ := HYB.out U hSw; go_simp); (try (with_reducible rfl)))
          try simp only [Act.put, List.setIfInBounds_toArray, List.set_cons_zero, List.set_cons_succ]
          refine ht_take 9 (v := ?vd_10) rfl (by kernel_rfl) (fun _ _ _ h => h) (Or.inl ⟨by rfl, ?hd_10⟩) hHeld ?rd_10
          case hd_10 => ((intro U hSw; have ⟨q3, q2, q4, r0, r1⟩ := HYB.out U hSw; go_simp); (try (with_reducible rfl)))
          try simp only [Act.put, List.setIfInBounds_toArray, List.set_cons_zero, List.set_cons_succ]
          refine ht_take 10 (v := ?vd_11) rfl (by kernel_rfl) (fun _ _ _ h => h) (Or.inl ⟨by rfl, ?hd_11⟩) hHeld ?rd_11
          case hd_11 => ((intro U hSw; have ⟨q3, q2, q4, r0, r1⟩ := HYB.out U hSw; go_simp); (try (with_reducible rfl)))
          try simp only [Act.put, List.setIfInBounds_toArray, List.set_cons_zero, List.set_cons_succ]
          refine ht_take 11 (v := ?vd_12) rfl (by kernel_rfl) (fun _ _ _ h => h) (Or.inl ⟨by rfl, ?hd_12⟩) hHeld ?rd_12
          case hd_12 => ((intro U hSw; have ⟨q3, q2, q4, r0, r1⟩ := HYB.out U hSw; go_simp); (try (with_reducible rfl)))
          try simp only [Act.put, List.setIfInBounds_toArray, List.set_cons_zero, List.set_cons_succ]
          refine ht_take 12 (v := ?vd_13) rfl (by kernel_rfl) (fun _ _ _ h => h) (Or.inl ⟨by rfl, ?hd_13⟩) hHeld ?rd_13
          case hd_13 => ((intro U hSw; have ⟨q3, q2, q4, r0, r1⟩ := HYB.out U hSw; go_simp); (try (with_reducible rfl)))
          try simp only [Act.put, List.setIfInBounds_toArray, List.set_cons_zero, List.set_cons_succ]
          refine ht_take 13 (v := ?vd_14) rfl (by kernel_rfl) (fun _ _ _ h => h) (Or.inl ⟨by rfl, ?hd_14⟩) hHeld ?rd_14
          case hd_14 => ((intro U hSw; have ⟨q3, q2, q4, r0, r1⟩ := HYB.out U hSw; go_simp); (try (with_reducible rfl)))
          try simp only [Act.put, List.setIfInBounds_toArray, List.set_cons_zero, List.set_cons_succ]
          refine ht_take 14 (v := ?vd_15) rfl (by kernel_rfl) (fun _ _ _ h => h) (Or.inl ⟨by rfl, ?hd_15⟩) hHeld ?rd_15
          case hd_15 => ((intro U hSw; have ⟨q3, q2, q4, r0, r1⟩ := HYB.out U hSw; go_simp); (try (with_reducible rfl)))
          try simp only [Act.put, List.setIfInBounds_toArray, List.set_cons_zero, List.set_cons_succ]
          refine ht_take 15 (v := ?vd_16) rfl (by kernel_rfl) (fun _ _ _ h => h) (Or.inl ⟨by rfl, ?hd_16⟩) hHeld ?rd_16
          case hd_16 => ((intro U hSw; have ⟨q3, q2, q4, r0, r1⟩ := HYB.out U hSw; go_simp); (try (with_reducible rfl)))
          try simp only [Act.put, List.setIfInBounds_toArray, List.set_cons_zero, List.set_cons_succ]
          refine ht_take 16 (v := ?vd_17) rfl (by kernel_rfl) (fun _ _ _ h => h) (Or.inl ⟨by rfl, ?hd_17⟩) hHeld ?rd_17
          case hd_17 => ((intro U hSw; have ⟨q3, q2, q4, r0, r1⟩ := HYB.out U hSw; go_simp); (try (with_reducible rfl)))
          try simp only [Act.put, List.setIfInBounds_toArray, List.set_cons_zero, List.set_cons_succ]
          refine ht_take 17 (v := ?vd_18) rfl (by kernel_rfl) (fun _ _ _ h => h) (Or.inl ⟨by rfl, ?hd_18⟩) hHeld ?rd_18
          case hd_18 => ((intro U hSw; have ⟨q3, q2, q4, r0, r1⟩ := HYB.out U hSw; go_simp); (try (with_reducible rfl)))
          try simp only [Act.put, List.setIfInBounds_toArray, List.set_cons_zero, List.set_cons_succ]
          refine ht_take 18 (v := ?vd_19) rfl (by kernel_rfl) (fun _ _ _ h => h) (Or.inl ⟨by rfl, ?hd_19⟩) hHeld ?rd_19
          case hd_19 => ((intro U hSw; have ⟨q3, q2, q4, r0, r1⟩ := HYB.out U hSw; go_simp); (try (with_reducible rfl)))
          try simp only [Act.put, List.setIfInBounds_toArray, List.set_cons_zero, List.set_cons_succ]
          refine ht_take 19 (v := ?vd_20) rfl (by kernel_rfl) (fun _ _ _ h => h) (Or.inl ⟨by rfl, ?hd_20⟩) hHeld ?rd_20
          case hd_20 => ((intro U hSw; have ⟨q3, q2, q4, r0, r1⟩ := HYB.out U hSw; go_simp); (try (with_reducible rfl)))
          try simp only [Act.put, List.setIfInBounds_toArray, List.set_cons_zero, List.set_cons_succ]
          refine ht_one 20 rfl (by kernel_rfl) (fun K hK => ?_)
          go_simp
          refine (HCT.out _ hHeld).mono ?_
          rintro e w2 ⟨rfl, rfl⟩
          go_wp2_with fail
          refine hK.out _ _ (hHeld) (fun hHeld => ?_)
          clear hK K
          try simp only [Act.put, List.setIfInBounds_toArray, List.set_cons_zero, List.set_cons_succ]
          refine ht_take 21 (v := ?vd_21) rfl (by kernel_rfl) (fun _ _ _ h => h) (Or.inl ⟨by rfl, ?hd_21⟩) hHeld ?rd_21
          case hd_21 => ((intro U hSw; have ⟨q3, q2, q4, r0, r1⟩ := HYB.out U hSw; go_simp); (try (with_reducible rfl)))
          try simp only [Act.put, List.setIfInBounds_toArray, List.set_cons_zero, List.set_cons_succ]
          refine ht_take 22 (v := ?vd_22) rfl (by kernel_rfl) (fun _ _ _ h => h) (Or.inl ⟨by rfl, ?hd_22⟩) hHeld ?rd_22
          case hd_22 => ((intro U hSw; have ⟨q3, q2, q4, r0, r1⟩ := HYB.out U hSw; go_simp); (try (with_reducible rfl)))
          try simp only [Act.put, List.setIfInBounds_toArray, List.set_cons_zero, List.set_cons_succ]
          refine ht_take 23 (v := ?vd_23) rfl (by kernel_rfl) (fun _ _ _ h => h) (Or.inl ⟨by rfl, ?hd_23⟩) hHeld ?rd_23
          case hd_23 => ((intro U hSw; have ⟨q3, q2, q4, r0, r1⟩ := HYB.out U hSw; go_simp); (try (with_reducible rfl)))
          try simp only [Act.put, List.setIfInBounds_toArray, List.set_cons_zero, List.set_cons_succ]
          refine ht_take 24 (v := ?vd_24) rfl (by kernel_rfl) (fun _ _ _ h => h) (Or.inl ⟨by rfl, ?hd_24⟩) hHeld ?rd_24
          case hd_24 => ((intro U hSw; have ⟨q3, q2, q4, r0, r1⟩ := HYB.out U hSw; go_simp); (try (with_reducible rfl)))
          try simp only [Act.put, List.setIfInBounds_toArray, List.set_cons_zero, List.set_cons_succ]
          refine ht_take 25 (v := ?vd_25) rfl (by kernel_rfl) (fun _ _ _ h => h) (Or.inl ⟨by rfl, ?hd_25⟩) hHeld ?rd_25
          case hd_25 => ((intro U hSw; have ⟨q3, q2, q4, r0, r1⟩ := HYB.out U hSw; go_simp); (try (with_reducible rfl)))
          try simp only [Act.put, List.setIfInBounds_toArray, List.set_cons_zero, List.set_cons_succ]
          refine ht_take 26 (v := ?vd_26) rfl (by kernel_rfl) (fun _ _ _ h => h) (Or.inl ⟨by rfl, ?hd_26⟩) hHeld ?rd_26
          case hd_26 => ((intro U hSw; have ⟨q3, q2, q4, r0, r1⟩ := HYB.out U hSw; go_simp); (try (with_reducible rfl)))
          try simp only [Act.put, List.setIfInBounds_toArray, List.set_cons_zero, List.set_cons_succ]
          refine ht_take 27 (v := ?vd_27) rfl (by kernel_rfl) (fun _ _ _ h => h) (Or.inl ⟨by rfl, ?hd_27⟩) hHeld ?rd_27
          case hd_27 => ((intro U hSw; have ⟨q3, q2, q4, r0, r1⟩ := HYB.out U hSw; go_simp); (try (with_reducible rfl)))
          try simp only [Act.put, List.setIfInBounds_toArray, List.set_cons_zero, List.set_cons_succ]
          refine ht_take 28 (v := ?vd_28) rfl (by kernel_rfl) (fun _ _ _ h => h) (Or.inl ⟨by rfl, ?hd_28⟩) hHeld ?rd_28
          case hd_28 => ((intro U hSw; have ⟨q3, q2, q4, r0, r1⟩ := HYB.out U hSw; go_simp); (try (with_reducible rfl)))
          try simp only [Act.put, List.setIfInBounds_toArray, List.set_cons_zero, List.set_cons_succ]
          refine ht_take 29 (v := ?vd_29) rfl (by kernel_rfl) (fun _ _ _ h => h) (Or.inl ⟨by rfl, ?hd_29⟩) hHeld ?rd_29
          case hd_29 => ((intro U hSw; have ⟨q3, q2, q4, r0, r1⟩ := HYB.out U hSw; go_simp); (try (with_reducible rfl)))
          try simp only [Act.put, List.setIfInBounds_toArray, List.set_cons_zero, List.set_cons_succ]
          refine ht_take 30 (v := undef) rfl (by kernel_rfl) (fun _ _ _ h => h) (Or.inr ⟨by rfl, rfl⟩) hHeld ?rd_30
          try simp only [Act.put, List.setIfInBounds_toArray, List.set_cons_zero, List.set_cons_succ]
          refine ht_take 31 (v := undef) rfl (by kernel_rfl) (fun _ _ _ h => h) (Or.inr ⟨by rfl, rfl⟩) hHeld ?rd_31
          try simp only [Act.put, List.setIfInBounds_toArray, List.set_cons_zero, List.set_cons_succ]
          refine ht_take 32 (v := undef) rfl (by kernel_rfl) (fun _ _ _ h => h) (Or.inr ⟨by rfl, rfl⟩) hHeld ?rd_32
          try simp only [Act.put, List.setIfInBounds_toArray, List.set_cons_zero, List.set_cons_succ]
          refine ht_take 33 (v := undef) rfl (by kernel_rfl) (fun _ _ _ h => h) (Or.inr ⟨by rfl, rfl⟩) hHeld ?rd_33
          try simp only [Act.put, List.setIfInBounds_toArray, List.set_cons_zero, List.set_cons_succ]
          refine ht_done (by kernel_rfl) rfl ?_
          have HH := Lib.hid hHeld
          clear hHeld
          go_wp2_with fail
          go_ret
          exact ⟨rfl, HBV.out.trans (HH.out.mono HBV.out.size)⟩
        · rw [if_neg k1] at hr
          have hl1 : decide ((x.flows.length : Int) < 1) = false := by simp; omega
          by_cases k3 : 2 < x.flows.length
          · rw [if_pos k3] at hr
            subst hr
            have hl2 : decide ((2 : Int) < (x.flows.length : Int)) = true := by simp; omega
            clear HR
            refine wp_region_HT 34 (fun U => Below V.heap.size V U) (by kernel_rfl) (by decide) ((Below.refl _ _).drew) (fun hHeld => ?_)
            refine ht_take 0 (v := ?ve_1) rfl (by kernel_rfl) (fun _ _ _ h => h) (Or.inl ⟨by rfl, ?he_1⟩) hHeld ?re_1
            case he_1 => ((intro U hSw; have ⟨q3, q2, q4, r0, r1⟩ := HYB.out U hSw; go_simp); (try (with_reducible rfl)))
            try simp only [Act.put, List.setIfInBounds_toArray, List.set_cons_zero, List.set_cons_succ]
            refine ht_take 1 (v := ?ve_2) rfl (by kernel_rfl) (fun _ _ _ h => h) (Or.inl ⟨by rfl, ?he_2⟩) hHeld ?re_2
            case he_2 => ((intro U hSw; have ⟨q3, q2, q4, r0, r1⟩ := HYB.out U hSw; go_simp); (try (with_reducible rfl)))
            try simp only [Act.put, List.setIfInBounds_toArray, List.set_cons_zero, List.set_cons_succ]
            refine ht_take 2 (v := ?ve_3) rfl (by kernel_rfl) (fun _ _ _ h => h) (Or.inl ⟨by rfl, ?he_3⟩) hHeld ?re_3
            case he_3 => ((intro U hSw; have ⟨q3, q2, q4, r0, r1⟩ := HYB.out U hSw; go_simp); (try (with_reducible rfl)))
            try simp only [Act.put, List.setIfInBounds_toArray, List.set_cons_zero, List.set_cons_succ]
            refine ht_take 3 (v := ?ve_4) rfl (by kernel_rfl) (fun _ _ _ h => h) (Or.inl ⟨by rfl, ?he_4⟩) hHeld ?re_4
            case he_4 => ((intro U hSw; have ⟨q3, q2, q4, r0, r1⟩ := HYB.out U hSw; go_simp); (try (with_reducible rfl)))
            try simp only [Act.put, List.setIfInBounds_toArray, List.set_cons_zero, List.set_cons_succ]
            refine ht_take 4 (v := ?ve_5) rfl (by kernel_rfl) (fun _ _ _ h => h) (Or.inl ⟨by rfl, ?he_5⟩) hHeld ?re_5
            case he_5 => ((intro U hSw; have ⟨q3, q2, q4, r0, r1⟩ := HYB.out U hSw; go_simp); (try (with_reducible rfl)))
            try simp only [Act.put, List.setIfInBounds_toArray, List.set_cons_zero, List.set_cons_succ]
            refine ht_take 5 (v := ?ve_6) rfl (by kernel_rfl) (fun _ _ _ h => h) (Or.inl ⟨by rfl, ?he_6⟩) hHeld ?re_6
            case he_6 => ((intro U hSw; have ⟨q3, q2, q4, r0, r1⟩ := HYB.out U hSw; go_simp); (try (with_reducible rfl)))
            try simp only [Act.put, List.setIfInBounds_toArray, List.set_cons_zero, List.set_cons_succ]
            refine ht_take 6 (v := ?ve_7) rfl (by kernel_rfl) (fun _ _ _ h => h) (Or.inl ⟨by rfl, ?he_7⟩) hHeld ?re_7
            case he_7 => ((intro U hSw; have ⟨q3, q2, q4, r0, r1⟩ := HYB.out U hSw; go_simp); (try (with_reducible rfl)))
            try simp only [Act.put, List.setIfInBounds_toArray, List.set_cons_zero, List.set_cons_succ]
            refine ht_take 7 (v := ?ve_8) rfl (by kernel_rfl) (fun _ _ _ h => h) (Or.inl ⟨by rfl, ?he_8⟩) hHeld ?re_8
            case he_8 => ((intro U hSw; have ⟨q3, q2, q4, r0, r1⟩ := HYB.out U hSw; go_simp); (try (with_reducible rfl)))
            try simp only [Act.put, List.setIfInBounds_toArray, List.set_cons_zero, List.set_cons_succ]
            refine ht_take 8 (v := ?ve_9) rfl (by kernel_rfl) (fun _ _ _ h => h) (Or.inl ⟨by rfl, ?he_9⟩) hHeld ?re_9
            case he_9 => ((intro U hSw; have ⟨q3, q2, q4, r0, r1⟩ := HYB.out U hSw; go_simp); (try (with_reducible rfl)))
            try simp only [Act.put, List.setIfInBounds_toArray, List.set_cons_zero, List.set_cons_succ]
            refine ht_take 9 (v := ?ve_10) rfl (by kernel_rfl) (fun _ _ _ h => h) (Or.inl ⟨by rfl, ?he_10⟩) hHeld ?re_10
            case he_10 => ((intro U hSw; have ⟨q3, q2, q4, r0, r1⟩ := HYB.out U hSw; go_simp); (try (with_reducible rfl)))
            try simp only [Act.put, List.setIfInBounds_toArray, List.set_cons_zero, List.set_cons_succ]
            refine ht_take 10 (v := ?ve_11) rfl (by kernel_rfl) (fun _ _ _ h => h) (Or.inl ⟨by rfl, ?he_11⟩) hHeld ?re_11
            case he_11 => ((intro U hSw; have ⟨q3, q2, q4, r0, r1⟩ := HYB.out U hSw; go_simp); (try (with_reducible rfl)))
            try simp only [Act.put, List.setIfInBounds_toArray, List.set_cons_zero, List.set_cons_succ]
            refine ht_take 11 (v := ?ve_12) rfl (by kernel_rfl) (fun _ _ _ h => h) (Or.inl ⟨by rfl, ?he_12⟩) hHeld ?re_12
            case he_12 => ((intro U hSw; have ⟨q3, q2, q4, r0, r1⟩ := HYB.out U hSw; go_simp); (try (with_reducible rfl)))
            try simp only [Act.put, List.setIfInBounds_toArray, List.set_cons_zero, List.set_cons_succ]
            refine ht_take 12 (v := ?ve_13) rfl (by kernel_rfl) (fun _ _ _ h => h) (Or.inl ⟨by rfl, ?he_13⟩) hHeld ?re_13
            case he_13 => ((intro U hSw; have ⟨q3, q2, q4, r0, r1⟩ := HYB.out U hSw; go_simp); (try (with_reducible rfl)))
            try simp only [Act.put, List.setIfInBounds_toArray, List.set_cons_zero, List.set_cons_succ]
            refine ht_take 13 (v := ?ve_14) rfl (by kernel_rfl) (fun _ _ _ h => h) (Or.inl ⟨by rfl, ?he_14⟩) hHeld ?re_14
            case he_14 => ((intro U hSw; have ⟨q3, q2, q4, r0, r1⟩ := HYB.out U hSw; go_simp); (try (with_reducible rfl)))
            try simp only [Act.put, List.setIfInBounds_toArray, List.set_cons_zero, List.set_cons_succ]
            refine ht_take 14 (v := ?ve_15) rfl (by kernel_rfl) (fun _ _ _ h => h) (Or.inl ⟨by rfl, ?he_15⟩) hHeld ?re_15
            case he_15 => ((intro U hSw; have ⟨q3, q2, q4, r0, r1⟩ := HYB.out U hSw; go_simp); (try (with_reducible rfl)))
            try simp only [Act.put, List.setIfInBounds_toArray, List.set_cons_zero, List.set_cons_succ]
            refine ht_take 15 (v := ?ve_16) rfl (by kernel_rfl) (fun _ _ _ h => h) (Or.inl ⟨by rfl, ?he_16⟩) hHeld ?re_16
            case he_16 => ((intro U hSw; have ⟨q3, q2, q4, r0, r1⟩ := HYB.out U hSw; go_simp); (try (with_reducible rfl)))
            try simp only [Act.put, List.setIfInBounds_toArray, List.set_cons_zero, List.set_cons_succ]
            refine ht_take 16 (v := ?ve_17) rfl (by kernel_rfl) (fun _ _ _ h => h) (Or.inl ⟨by rfl, ?he_17⟩) hHeld ?re_17
            case he_17 => ((intro U hSw; have ⟨q3, q2, q4, r0, r1⟩ := HYB.out U hSw; go_simp); (try (with_reducible rfl)))
            try simp only [Act.put, List.setIfInBounds_toArray, List.set_cons_zero, List.set_cons_succ]
            refine ht_take 17 (v := ?ve_18) rfl (by kernel_rfl) (fun _ _ _ h => h) (Or.inl ⟨by rfl, ?he_18⟩) hHeld ?re_18
            case he_18 => ((intro U hSw; have ⟨q3, q2, q4, r0, r1⟩ := HYB.out U hSw; go_simp); (try (with_reducible rfl)))
            try simp only [Act.put, List.setIfInBounds_toArray, List.set_cons_zero, List.set_cons_succ]
            refine ht_take 18 (v := ?ve_19) rfl (by kernel_rfl) (fun _ _ _ h => h) (Or.inl ⟨by rfl, ?he_19⟩) hHeld ?re_19
            case he_19 => ((intro U hSw; have ⟨q3, q2, q4, r0, r1⟩ := HYB.out U hSw; go_simp); (try (with_reducible rfl)))
            try simp only [Act.put, List.setIfInBounds_toArray, List.set_cons_zero, List.set_cons_succ]
            refine ht_take 19 (v := ?ve_20) rfl (by kernel_rfl) (fun _ _ _ h => h) (Or.inl ⟨by rfl, ?he_20⟩) hHeld ?re_20
            case he_20 => ((intro U hSw; have ⟨q3, q2, q4, r0, r1⟩ := HYB.out U hSw; go_simp); (try (with_reducible rfl)))
            try simp only [Act.put, List.setIfInBounds_toArray, List.set_cons_zero, List.set_cons_succ]
            refine ht_one 20 rfl (by kernel_rfl) (fun K hK => ?_)
            go_simp
            refine (HCT.out _ hHeld).mono ?_
            rintro e w2 ⟨rfl, rfl⟩
            go_wp2_with fail
            refine hK.out _ _ (hHeld) (fun hHeld => ?_)
            clear hK K
            try simp only [Act.put, List.setIfInBounds_toArray, List.set_cons_zero, List.set_cons_succ]
            refine ht_take 21 (v := ?ve_21) rfl (by kernel_rfl) (fun _ _ _ h => h) (Or.inl ⟨by rfl, ?he_21⟩) hHeld ?re_21
            case he_21 => ((intro U hSw; have ⟨q3, q2, q4, r0, r1⟩ := HYB.out U hSw; go_simp); (try (with_reducible rfl)))
            try simp only [Act.put, List.setIfInBounds_toArray, List.set_cons_zero, List.set_cons_succ]
            refine ht_take 22 (v := ?ve_22) rfl (by kernel_rfl) (fun _ _ _ h => h) (Or.inl ⟨by rfl, ?he_22⟩) hHeld ?re_22
            case he_22 => ((intro U hSw; have ⟨q3, q2, q4, r0, r1⟩ := HYB.out U hSw; go_simp); (try (with_reducible rfl)))
            try simp only [Act.put, List.setIfInBounds_toArray, List.set_cons_zero, List.set_cons_succ]
            refine ht_take 23 (v := ?ve_23) rfl (by kernel_rfl) (fun _ _ _ h => h) (Or.inl ⟨by rfl, ?he_23⟩) hHeld ?re_23
            case he_23 => ((intro U hSw; have ⟨q3, q2, q4, r0, r1⟩ := HYB.out U hSw; go_simp); (try (with_reducible rfl)))
            try simp only [Act.put, List.setIfInBounds_toArray, List.set_cons_zero, List.set_cons_succ]
            refine ht_take 24 (v := ?ve_24) rfl (by kernel_rfl) (fun _ _ _ h => h) (Or.inl ⟨by rfl, ?he_24⟩) hHeld ?re_24
            case he_24 => ((intro U hSw; have ⟨q3, q2, q4, r0, r1⟩ := HYB.out U hSw; go_simp); (try (with_reducible rfl)))
            try simp only [Act.put, List.setIfInBounds_toArray, List.set_cons_zero, List.set_cons_succ]
            refine ht_take 25 (v := ?ve_25) rfl (by kernel_rfl) (fun _ _ _ h => h) (Or.inl ⟨by rfl, ?he_25⟩) hHeld ?re_25
            case he_25 => ((intro U hSw; have ⟨q3, q2, q4, r0, r1⟩ := HYB.out U hSw; go_simp); (try (with_reducible rfl)))
            try simp only [Act.put, List.setIfInBounds_toArray, List.set_cons_zero, List.set_cons_succ]
            refine ht_take 26 (v := ?ve_26) rfl (by kernel_rfl) (fun _ _ _ h => h) (Or.inl ⟨by rfl, ?he_26⟩) hHeld ?re_26
            case he_26 => ((intro U hSw; have ⟨q3, q2, q4, r0, r1⟩ := HYB.out U hSw; go_simp); (try (with_reducible rfl)))
            try simp only [Act.put, List.setIfInBounds_toArray, List.set_cons_zero, List.set_cons_succ]
            refine ht_take 27 (v := ?ve_27) rfl (by kernel_rfl) (fun _ _ _ h => h) (Or.inl ⟨by rfl, ?he_27⟩) hHeld ?re_27
            case he_27 => ((intro U hSw; have ⟨q3, q2, q4, r0, r1⟩ := HYB.out U hSw; go_simp); (try (with_reducible rfl)))
            try simp only [Act.put, List.setIfInBounds_toArray, List.set_cons_zero, List.set_cons_succ]
            refine ht_take 28 (v := ?ve_28) rfl (by kernel_rfl) (fun _ _ _ h => h) (Or.inl ⟨by rfl, ?he_28⟩) hHeld ?re_28
            case he_28 => ((intro U hSw; have ⟨q3, q2, q4, r0, r1⟩ := HYB.out U hSw; go_simp); (try (with_reducible rfl)))
            try simp only [Act.put, List.setIfInBounds_toArray, List.set_cons_zero, List.set_cons_succ]
            refine ht_take 29 (v := ?ve_29) rfl (by kernel_rfl) (fun _ _ _ h => h) (Or.inl ⟨by rfl, ?he_29⟩) hHeld ?re_29
            case he_29 => ((intro U hSw; have ⟨q3, q2, q4, r0, r1⟩ := HYB.out U hSw; go_simp); (try (with_reducible rfl)))
            try simp only [Act.put, List.setIfInBounds_toArray, List.set_cons_zero, List.set_cons_succ]
            refine ht_take 30 (v := ?ve_30) rfl (by kernel_rfl) (fun _ _ _ h => h) (Or.inl ⟨by rfl, ?he_30⟩) hHeld ?re_30
            case he_30 => ((intro U hSw; have ⟨q3, q2, q4, r0, r1⟩ := HYB.out U hSw; go_simp); (try (with_reducible rfl)))
            try simp only [Act.put, List.setIfInBounds_toArray, List.set_cons_zero, List.set_cons_succ]
            refine ht_take 31 (v := ?ve_31) rfl (by kernel_rfl) (fun _ _ _ h => h) (Or.inl ⟨by rfl, ?he_31⟩) hHeld ?re_31
            case he_31 => ((intro U hSw; have ⟨q3, q2, q4, r0, r1⟩ := HYB.out U hSw; go_simp); (try (with_reducible rfl)))
            try simp only [Act.put, List.setIfInBounds_toArray, List.set_cons_zero, List.set_cons_succ]
            refine ht_take 32 (v := ?ve_32) rfl (by kernel_rfl) (fun _ _ _ h => h) (Or.inl ⟨by rfl, ?he_32⟩) hHeld ?re_32
            case he_32 => ((intro U hSw; have ⟨q3, q2, q4, r0, r1⟩ := HYB.out U hSw; go_simp); (try (with_reducible rfl)))
            try simp only [Act.put, List.setIfInBounds_toArray, List.set_cons_zero, List.set_cons_succ]
            refine ht_take 33 (v := ?ve_33) rfl (by kernel_rfl) (fun _ _ _ h => h) (Or.inl ⟨by rfl, ?he_33⟩) hHeld ?re_33
            case he_33 => ((intro U hSw; have ⟨q3, q2, q4, r0, r1⟩ := HYB.out U hSw; go_simp); (try (with_reducible rfl)))
            try simp only [Act.put, List.setIfInBounds_toArray, List.set_cons_zero, List.set_cons_succ]
            refine ht_done (by kernel_rfl) rfl ?_
            have HH := Lib.hid hHeld
            clear hHeld
            go_wp2_with fail
            go_ret
            exact ⟨rfl, HBV.out.trans (HH.out.mono HBV.out.size)⟩
          · rw [if_neg k3] at hr
            have hl2 : decide ((2 : Int) < (x.flows.length : Int)) = false := by simp; omega
            have HRR := Lib.hid hr
            clear HR hr
            refine wp_region_HT 34 (fun U => Below V.heap.size V U) (by kernel_rfl) (by decide) ((Below.refl _ _).drew) (fun hHeld => ?_)
            refine ht_take 0 (v := ?vf_1) rfl (by kernel_rfl) (fun _ _ _ h => h) (Or.inl ⟨by rfl, ?hf_1⟩) hHeld ?rf_1
            case hf_1 => ((intro U hSw; have ⟨q3, q2, q4, r0, r1⟩ := HYB.out U hSw; go_simp); (try (with_reducible rfl)))
            try simp only [Act.put, List.setIfInBounds_toArray, List.set_cons_zero, List.set_cons_succ]
            refine ht_take 1 (v := ?vf_2) rfl (by kernel_rfl) (fun _ _ _ h => h) (Or.inl ⟨by rfl, ?hf_2⟩) hHeld ?rf_2
            case hf_2 => ((intro U hSw; have ⟨q3, q2, q4, r0, r1⟩ := HYB.out U hSw; go_simp); (try (with_reducible rfl)))
            try simp only [Act.put, List.setIfInBounds_toArray, List.set_cons_zero, List.set_cons_succ]
            refine ht_take 2 (v := ?vf_3) rfl (by kernel_rfl) (fun _ _ _ h => h) (Or.inl ⟨by rfl, ?hf_3⟩) hHeld ?rf_3
            case hf_3 => ((intro U hSw; have ⟨q3, q2, q4, r0, r1⟩ := HYB.out U hSw; go_simp); (try (with_reducible rfl)))
            try simp only [Act.put, List.setIfInBounds_toArray, List.set_cons_zero, List.set_cons_succ]
            refine ht_take 3 (v := ?vf_4) rfl (by kernel_rfl) (fun _ _ _ h => h) (Or.inl ⟨by rfl, ?hf_4⟩) hHeld ?rf_4
            case hf_4 => ((intro U hSw; have ⟨q3, q2, q4, r0, r1⟩ := HYB.out U hSw; go_simp); (try (with_reducible rfl)))
            try simp only [Act.put, List.setIfInBounds_toArray, List.set_cons_zero, List.set_cons_succ]
            refine ht_take 4 (v := ?vf_5) rfl (by kernel_rfl) (fun _ _ _ h => h) (Or.inl ⟨by rfl, ?hf_5⟩) hHeld ?rf_5
            case hf_5 => ((intro U hSw; have ⟨q3, q2, q4, r0, r1⟩ := HYB.out U hSw; go_simp); (try (with_reducible rfl)))
            try simp only [Act.put, List.setIfInBounds_toArray, List.set_cons_zero, List.set_cons_succ]
            refine ht_take 5 (v := ?vf_6) rfl (by kernel_rfl) (fun _ _ _ h => h) (Or.inl ⟨by rfl, ?hf_6⟩) hHeld ?rf_6
            case hf_6 => ((intro U hSw; have ⟨q3, q2, q4, r0, r1⟩ := HYB.out U hSw; go_simp); (try (with_reducible rfl)))
            try simp only [Act.put, List.setIfInBounds_toArray, List.set_cons_zero, List.set_cons_succ]
            refine ht_take 6 (v := ?vf_7) rfl (by kernel_rfl) (fun _ _ _ h => h) (Or.inl ⟨by rfl, ?hf_7⟩) hHeld ?rf_7
            case hf_7 => ((intro U hSw; have ⟨q3, q2, q4, r0, r1⟩ := HYB.out U hSw; go_simp); (try (with_reducible rfl)))
            try simp only [Act.put, List.setIfInBounds_toArray, List.set_cons_zero, List.set_cons_succ]
            refine ht_take 7 (v := ?vf_8) rfl (by kernel_rfl) (fun _ _ _ h => h) (Or.inl ⟨by rfl, ?hf_8⟩) hHeld ?rf_8
            case hf_8 => ((intro U hSw; have ⟨q3, q2, q4, r0, r1⟩ := HYB.out U hSw; go_simp); (try (with_reducible rfl)))
            try simp only [Act.put, List.setIfInBounds_toArray, List.set_cons_zero, List.set_cons_succ]
            refine ht_take 8 (v := ?vf_9) rfl (by kernel_rfl) (fun _ _ _ h => h) (Or.inl ⟨by rfl, ?hf_9⟩) hHeld ?rf_9
            case hf_9 => ((intro U hSw; have ⟨q3, q2, q4, r0, r1⟩ := HYB.out U hSw; go_simp); (try (with_reducible rfl)))
            try simp only [Act.put, List.setIfInBounds_toArray, List.set_cons_zero, List.set_cons_succ]
            refine ht_take 9 (v := ?vf_10) rfl (by kernel_rfl) (fun _ _ _ h => h) (Or.inl ⟨by rfl, ?hf_10⟩) hHeld ?rf_10
            case hf_10 => ((intro U hSw; have ⟨q3, q2, q4, r0, r1⟩ := HYB.out U hSw; go_simp); (try (with_reducible rfl)))
            try simp only [Act.put, List.setIfInBounds_toArray, List.set_cons_zero, List.set_cons_succ]
            refine ht_take 10 (v := ?vf_11) rfl (by kernel_rfl) (fun _ _ _ h => h) (Or.inl ⟨by rfl, ?hf_11⟩) hHeld ?rf_11
            case hf_11 => ((intro U hSw; have ⟨q3, q2, q4, r0, r1⟩ := HYB.out U hSw; go_simp); (try (with_reducible rfl)))
            try simp only [Act.put, List.setIfInBounds_toArray, List.set_cons_zero, List.set_cons_succ]
            refine ht_take 11 (v := ?vf_12) rfl (by kernel_rfl) (fun _ _ _ h => h) (Or.inl ⟨by rfl, ?hf_12⟩) hHeld ?rf_12
            case hf_12 => ((intro U hSw; have ⟨q3, q2, q4, r0, r1⟩ := HYB.out U hSw; go_simp); (try (with_reducible rfl)))
            try simp only [Act.put, List.setIfInBounds_toArray, List.set_cons_zero, List.set_cons_succ]
            refine ht_take 12 (v := ?vf_13) rfl (by kernel_rfl) (fun _ _ _ h => h) (Or.inl ⟨by rfl, ?hf_13⟩) hHeld ?rf_13
            case hf_13 => ((intro U hSw; have ⟨q3, q2, q4, r0, r1⟩ := HYB.out U hSw; go_simp); (try (with_reducible rfl)))
            try simp only [Act.put, List.setIfInBounds_toArray, List.set_cons_zero, List.set_cons_succ]
            refine ht_take 13 (v := ?vf_14) rfl (by kernel_rfl) (fun _ _ _ h => h) (Or.inl ⟨by rfl, ?hf_14⟩) hHeld ?rf_14
            case hf_14 => ((intro U hSw; have ⟨q3, q2, q4, r0, r1⟩ := HYB.out U hSw; go_simp); (try (with_reducible rfl)))
            try simp only [Act.put, List.setIfInBounds_toArray, List.set_cons_zero, List.set_cons_succ]
            refine ht_take 14 (v := ?vf_15) rfl (by kernel_rfl) (fun _ _ _ h => h) (Or.inl ⟨by rfl, ?hf_15⟩) hHeld ?rf_15
            case hf_15 => ((intro U hSw; have ⟨q3, q2, q4, r0, r1⟩ := HYB.out U hSw; go_simp); (try (with_reducible rfl)))
            try simp only [Act.put, List.setIfInBounds_toArray, List.set_cons_zero, List.set_cons_succ]
            refine ht_take 15 (v := ?vf_16) rfl (by kernel_rfl) (fun _ _ _ h => h) (Or.inl ⟨by rfl, ?hf_16⟩) hHeld ?rf_16
            case hf_16 => ((intro U hSw; have ⟨q3, q2, q4, r0, r1⟩ := HYB.out U hSw; go_simp); (try (with_reducible rfl)))
            try simp only [Act.put, List.setIfInBounds_toArray, List.set_cons_zero, List.set_cons_succ]
            refine ht_take 16 (v := ?vf_17) rfl (by kernel_rfl) (fun _ _ _ h => h) (Or.inl ⟨by rfl, ?hf_17⟩) hHeld ?rf_17
            case hf_17 => ((intro U hSw; have ⟨q3, q2, q4, r0, r1⟩ := HYB.out U hSw; go_simp); (try (with_reducible rfl)))
            try simp only [Act.put, List.setIfInBounds_toArray, List.set_cons_zero, List.set_cons_succ]
            refine ht_take 17 (v := ?vf_18) rfl (by kernel_rfl) (fun _ _ _ h => h) (Or.inl ⟨by rfl, ?hf_18⟩) hHeld ?rf_18
            case hf_18 => ((intro U hSw; have ⟨q3, q2, q4, r0, r1⟩ := HYB.out U hSw; go_simp); (try (with_reducible rfl)))
            try simp only [Act.put, List.setIfInBounds_toArray, List.set_cons_zero, List.set_cons_succ]
            refine ht_take 18 (v := ?vf_19) rfl (by kernel_rfl) (fun _ _ _ h => h) (Or.inl ⟨by rfl, ?hf_19⟩) hHeld ?rf_19
            case hf_19 => ((intro U hSw; have ⟨q3, q2, q4, r0, r1⟩ := HYB.out U hSw; go_simp); (try (with_reducible rfl)))
            try simp only [Act.put, List.setIfInBounds_toArray, List.set_cons_zero, List.set_cons_succ]
            refine ht_take 19 (v := ?vf_20) rfl (by kernel_rfl) (fun _ _ _ h => h) (Or.inl ⟨by rfl, ?hf_20⟩) hHeld ?rf_20
            case hf_20 => ((intro U hSw; have ⟨q3, q2, q4, r0, r1⟩ := HYB.out U hSw; go_simp); (try (with_reducible rfl)))
            try simp only [Act.put, List.setIfInBounds_toArray, List.set_cons_zero, List.set_cons_succ]
            refine ht_one 20 rfl (by kernel_rfl) (fun K hK => ?_)
            go_simp
            refine (HCT.out _ hHeld).mono ?_
            rintro e w2 ⟨rfl, rfl⟩
            go_wp2_with fail
            refine hK.out _ _ (hHeld) (fun hHeld => ?_)
            clear hK K
            try simp only [Act.put, List.setIfInBounds_toArray, List.set_cons_zero, List.set_cons_succ]
            refine ht_take 21 (v := ?vf_21) rfl (by kernel_rfl) (fun _ _ _ h => h) (Or.inl ⟨by rfl, ?hf_21⟩) hHeld ?rf_21
            case hf_21 => ((intro U hSw; have ⟨q3, q2, q4, r0, r1⟩ := HYB.out U hSw; go_simp); (try (with_reducible rfl)))
            try simp only [Act.put, List.setIfInBounds_toArray, List.set_cons_zero, List.set_cons_succ]
            refine ht_take 22 (v := ?vf_22) rfl (by kernel_rfl) (fun _ _ _ h => h) (Or.inl ⟨by rfl, ?hf_22⟩) hHeld ?rf_22
            case hf_22 => ((intro U hSw; have ⟨q3, q2, q4, r0, r1⟩ := HYB.out U hSw; go_simp); (try (with_reducible rfl)))
            try simp only [Act.put, List.setIfInBounds_toArray, List.set_cons_zero, List.set_cons_succ]
            refine ht_take 23 (v := ?vf_23) rfl (by kernel_rfl) (fun _ _ _ h => h) (Or.inl ⟨by rfl, ?hf_23⟩) hHeld ?rf_23
            case hf_23 => ((intro U hSw; have ⟨q3, q2, q4, r0, r1⟩ := HYB.out U hSw; go_simp); (try (with_reducible rfl)))
            try simp only [Act.put, List.setIfInBounds_toArray, List.set_cons_zero, List.set_cons_succ]
            refine ht_take 24 (v := ?vf_24) rfl (by kernel_rfl) (fun _ _ _ h => h) (Or.inl ⟨by rfl, ?hf_24⟩) hHeld ?rf_24
            case hf_24 => ((intro U hSw; have ⟨q3, q2, q4, r0, r1⟩ := HYB.out U hSw; go_simp); (try (with_reducible rfl)))
            try simp only [Act.put, List.setIfInBounds_toArray, List.set_cons_zero, List.set_cons_succ]
            refine ht_take 25 (v := ?vf_25) rfl (by kernel_rfl) (fun _ _ _ h => h) (Or.inl ⟨by rfl, ?hf_25⟩) hHeld ?rf_25
            case hf_25 => ((intro U hSw; have ⟨q3, q2, q4, r0, r1⟩ := HYB.out U hSw; go_simp); (try (with_reducible rfl)))
            try simp only [Act.put, List.setIfInBounds_toArray, List.set_cons_zero, List.set_cons_succ]
            refine ht_take 26 (v := ?vf_26) rfl (by kernel_rfl) (fun _ _ _ h => h) (Or.inl ⟨by rfl, ?hf_26⟩) hHeld ?rf_26
            case hf_26 => ((intro U hSw; have ⟨q3, q2, q4, r0, r1⟩ := HYB.out U hSw; go_simp); (try (with_reducible rfl)))
            try simp only [Act.put, List.setIfInBounds_toArray, List.set_cons_zero, List.set_cons_succ]
            refine ht_take 27 (v := ?vf_27) rfl (by kernel_rfl) (fun _ _ _ h => h) (Or.inl ⟨by rfl, ?hf_27⟩) hHeld ?rf_27
            case hf_27 => ((intro U hSw; have ⟨q3, q2, q4, r0, r1⟩ := HYB.out U hSw; go_simp); (try (with_reducible rfl)))
            try simp only [Act.put, List.setIfInBounds_toArray, List.set_cons_zero, List.set_cons_succ]
            refine ht_take 28 (v := ?vf_28) rfl (by kernel_rfl) (fun _ _ _ h => h) (Or.inl ⟨by rfl, ?hf_28⟩) hHeld ?rf_28
            case hf_28 => ((intro U hSw; have ⟨q3, q2, q4, r0, r1⟩ := HYB.out U hSw; go_simp); (try (with_reducible rfl)))
            try simp only [Act.put, List.setIfInBounds_toArray, List.set_cons_zero, List.set_cons_succ]
            refine ht_take 29 (v := ?vf_29) rfl (by kernel_rfl) (fun _ _ _ h => h) (Or.inl ⟨by rfl, ?hf_29⟩) hHeld ?rf_29
            case hf_29 => ((intro U hSw; have ⟨q3, q2, q4, r0, r1⟩ := HYB.out U hSw; go_simp); (try (with_reducible rfl)))
            try simp only [Act.put, List.setIfInBounds_toArray, List.set_cons_zero, List.set_cons_succ]
            refine ht_take 30 (v := ?vf_30) rfl (by kernel_rfl) (fun _ _ _ h => h) (Or.inl ⟨by rfl, ?hf_30⟩) hHeld ?rf_30
            case hf_30 => ((intro U hSw; have ⟨q3, q2, q4, r0, r1⟩ := HYB.out U hSw; go_simp); (try (with_reducible rfl)))
            try simp only [Act.put, List.setIfInBounds_toArray, List.set_cons_zero, List.set_cons_succ]
            refine ht_take 31 (v := ?vf_31) rfl (by kernel_rfl) (fun _ _ _ h => h) (Or.inl ⟨by rfl, ?hf_31⟩) hHeld ?rf_31
            case hf_31 => ((intro U hSw; have ⟨q3, q2, q4, r0, r1⟩ := HYB.out U hSw; go_simp); (try (with_reducible rfl)))
            try simp only [Act.put, List.setIfInBounds_toArray, List.set_cons_zero, List.set_cons_succ]
            refine ht_take 32 (v := ?vf_32) rfl (by kernel_rfl) (fun _ _ _ h => h) (Or.inl ⟨by rfl, ?hf_32⟩) hHeld ?rf_32
            case hf_32 => ((intro U hSw; have ⟨q3, q2, q4, r0, r1⟩ := HYB.out U hSw; go_simp); (try (with_reducible rfl)))
            try simp only [Act.put, List.setIfInBounds_toArray, List.set_cons_zero, List.set_cons_succ]
            refine ht_take 33 (v := ?vf_33) rfl (by kernel_rfl) (fun _ _ _ h => h) (Or.inl ⟨by rfl, ?hf_33⟩) hHeld ?rf_33
            case hf_33 => ((intro U hSw; have ⟨q3, q2, q4, r0, r1⟩ := HYB.out U hSw; go_simp); (try (with_reducible rfl)))
            try simp only [Act.put, List.setIfInBounds_toArray, List.set_cons_zero, List.set_cons_succ]
            refine ht_done (by kernel_rfl) rfl ?_
            have HH := Lib.hid hHeld
            clear hHeld
            obtain ⟨T0, hT0⟩ : ∃ T, T = V.drew := ⟨_, rfl⟩
            have bT0 : Below V.heap.size V T0 := by rw [hT0]; exact (Below.refl _ _).drew
            rw [← hT0]
            have t3 : T0.cell? ⟨gc + 1, 3, none⟩ = some (.slice (some ⟨bP, 0, none⟩) 2 c3) := (bT0.cell (p := ⟨gc + 1, 3, none⟩) lgx).trans x3
            have t2 : T0.cell? ⟨gc + 1, 2, none⟩ = some (.string x.first) := (bT0.cell (p := ⟨gc + 1, 2, none⟩) lgx).trans x2
            have t4 : T0.cell? ⟨gc + 1, 4, none⟩ = some (.slice A4 x.flows.length c4) := (bT0.cell (p := ⟨gc + 1, 4, none⟩) lgx).trans x4
            have tp0 : T0.cell? ⟨bP, 0, none⟩ = some (.string p0) := (bT0.cell (p := ⟨bP, 0, none⟩) hbP).trans w0
            have tp1 : T0.cell? ⟨bP, 1, none⟩ = some (.string p1) := (bT0.cell (p := ⟨bP, 1, none⟩) hbP).trans w1
            have HT0 := Lib.hid bT0
            obtain ⟨ot, hot⟩ : ∃ t, t = otherF x := ⟨_, rfl⟩
            have HOT := Lib.hid hot
            have hrr := HRR.out
            rw [← hot] at hrr
            have HRR := Lib.hid hrr
            clear hT0 bT0 hot hrr HH HCT hl1 hl2 hpp
            go_upto_if 53 with fail
            clear t3
            go_cut [5] (fun v wx => v = .string ot ∧ T0 = wx)
            case first =>
              cases hpf : (p0.toList == x.first.toList)
              · have e1 : ot = p0 := by rw [HOT.out, HOTH.out, if_neg (by rw [show eqS p0 x.first = false from hpf]; decide)]
                have t3 : T0.cell? ⟨gc + 1, 3, none⟩ = some (.slice (some ⟨bP, 0, none⟩) 2 c3) := (HT0.out.cell (p := ⟨gc + 1, 3, none⟩) lgx).trans x3
                clear HOT HOTH HRR
                subst e1
                go_wp2_with fail
                go_meet
                case rel => exact ⟨rfl, rfl⟩
              · have e1 : ot = p1 := by rw [HOT.out, HOTH.out, if_pos (show eqS p0 x.first = true from hpf)]
                have t3 : T0.cell? ⟨gc + 1, 3, none⟩ = some (.slice (some ⟨bP, 0, none⟩) 2 c3) := (HT0.out.cell (p := ⟨gc + 1, 3, none⟩) lgx).trans x3
                clear HOT HOTH HRR
                subst e1
                go_wp2_with fail
                go_meet
                case rel => exact ⟨rfl, rfl⟩
            case rest =>
              obtain ⟨rfl, rfl⟩ := hcut
              clear tp0 tp1 HOT HOTH
              go_wp2_with fail
              go_loopw [61] (fun kv wr => ∃ k : Nat, k ≤ x.flows.length ∧ kv = .int .i64 k ∧ Hid (flOk c x.first ot k (x.flows.drop k) = r) ∧ Below T0.heap.size T0 wr) (fun kv _ => x.flows.length - (intOf kv).toNat)
              case atStart => exact ⟨0, Nat.zero_le _, rfl, HRR.out.symm, Below.refl _ _⟩
              case round =>
                obtain ⟨k, hk, rfl, hinv, hB⟩ := hrel
                obtain ⟨T, rfl⟩ : ∃ T, T = wr := ⟨_, rfl⟩
                have bT := HT0.out.trans (hB.mono HT0.out.size)
                have HBT := Lib.hid bT
                by_cases hlt : k < x.flows.length
                · obtain ⟨b4, vs, rfl, hb4, _, hvs, hcell⟩ := HAT4.out k hlt
                  have hi := hinv.out
                  rw [List.drop_eq_getElem_cons hlt, flOk] at hi
                  obtain ⟨f, hf⟩ : ∃ f, f = x.flows[k] := ⟨_, rfl⟩
                  rw [← hf] at hvs hi
                  obtain rfl := rd_strC hvs
                  have e4 : T.cell? ⟨b4, k, none⟩ = some (.string f) := (bT.cell (p := ⟨b4, k, none⟩) hb4).trans (by have t := hcell 0 (by omega); simpa using t)
                  have hcall := idsFlow_any (w := T) (vId := .string c.id) (vP := .slice AP c.parts.length cP) (vI := .slice AI c.items.length cI) (vS := .slice AS c.seqs.length cS) f (Rd.below bT _ _ HFV.out)
                  have hq : flowAt c f = findFrom (fun y : FlowD => eqS y.id f) c.flows 0 := rfl
                  have hin := findFrom_inI (fun y : FlowD => eqS y.id f) c.flows 0
                  rw [← hq] at hcall hin
                  generalize flowAt c f = q at *
                  have HCALL := Lib.hid hcall
                  have HI := Lib.hid hi
                  have HIN := Lib.hid hin
                  have hkI : (k : Int) < (x.flows.length : Int) := by omega
                  have yt0 : T.cell? ⟨gc, 0, none⟩ = some (.string c.id) := (bT.cell (p := ⟨gc, 0, none⟩) lgc).trans y0
                  have yt1 : T.cell? ⟨gc, 1, none⟩ = some (.slice AP c.parts.length cP) := (bT.cell (p := ⟨gc, 1, none⟩) lgc).trans y1
                  have yt2 : T.cell? ⟨gc, 2, none⟩ = some (.slice AF c.flows.length cF) := (bT.cell (p := ⟨gc, 2, none⟩) lgc).trans y2
                  have yt3 : T.cell? ⟨gc, 3, none⟩ = some (.slice AI c.items.length cI) := (bT.cell (p := ⟨gc, 3, none⟩) lgc).trans y3
                  have yt4 : T.cell? ⟨gc, 4, none⟩ = some (.slice AS c.seqs.length cS) := (bT.cell (p := ⟨gc, 4, none⟩) lgc).trans y4
                  have lgxT : gc + 1 < T.heap.size := Nat.lt_of_lt_of_le lgx bT.size
                  have lgcT : gc < T.heap.size := Nat.lt_of_lt_of_le lgc bT.size
                  have HB := Lib.hid hB
                  clear hcall hi hin hvs hcell hf hinv hq bT hB t2 t4
                  go_wp2_with fail
                  refine HCALL.out.mono ?_
                  rintro e w5 ⟨rfl, hb5⟩
                  have HB5 := Lib.hid hb5
                  have s2 : w5.cell? ⟨gc + 1, 2, none⟩ = some (.string x.first) := (hb5.cell (p := ⟨gc + 1, 2, none⟩) lgxT).trans ((HBT.out.cell (p := ⟨gc + 1, 2, none⟩) lgx).trans x2)
                  have sF : w5.cell? ⟨gc, 2, none⟩ = some (.slice AF c.flows.length cF) := (hb5.cell (p := ⟨gc, 2, none⟩) lgcT).trans ((HBT.out.cell (p := ⟨gc, 2, none⟩) lgc).trans y2)
                  have HFB := Lib.hid (HBV.out.trans ((HBT.out.trans (hb5.mono HBT.out.size)).mono HBV.out.size))
                  have lgx5 : gc + 1 < w5.heap.size := Nat.lt_of_lt_of_le lgxT hb5.size
                  have HBT5 := Lib.hid (HBT.out.trans (hb5.mono HBT.out.size))
                  have HBR5 := Lib.hid (HB.out.trans (hb5.mono HB.out.size))
                  clear HCALL hb5 e4 yt0 yt1 yt2 yt3 yt4
                  by_cases hq0 : q < 0
                  · have hi := HI.out
                    rw [show decide (0 ≤ q) = false by simp; omega, Bool.false_and] at hi
                    subst hi
                    have hqb : decide (q < 0) = true := by simpa using hq0
                    clear HI HIN HRR
                    go_wp2_with fail
                    go_ret
                    exact ⟨rfl, HFB.out⟩
                  · obtain ⟨j, hj, hjq⟩ := HIN.out (by omega)
                    rw [Nat.zero_add] at hjq
                    subst hjq
                    have hi := HI.out
                    rw [show decide (0 ≤ (j : Int)) = true by simp, Bool.true_and] at hi
                    have hfk : flowK c (j : Int) = c.flows[j] := by unfold flowK; rw [Int.toNat_natCast, List.getD_eq_getElem?_getD, List.getElem?_eq_getElem hj]; rfl
                    rw [hfk] at hi
                    obtain ⟨_, _, hfv, _, _, hatF⟩ := rd_at flowC_len HFV.out
                    injection hfv with e1 e2 e3
                    clear e2
                    subst e1
                    subst e3
                    obtain ⟨bF, vs, rfl, hbF, _, hvs, hcell⟩ := hatF j hj
                    obtain ⟨y, hy⟩ : ∃ y, y = c.flows[j] := ⟨_, rfl⟩
                    rw [← hy] at hvs hi
                    obtain rfl := rd_flowC hvs
                    have f1 : w5.cell? ⟨bF, j * 4 + 1, none⟩ = some (.string y.src) := (HBT5.out.cell (p := ⟨bF, j * 4 + 1, none⟩) hbF).trans (hcell 1 (by omega))
                    have f2 : w5.cell? ⟨bF, j * 4 + 2, none⟩ = some (.string y.dst) := (HBT5.out.cell (p := ⟨bF, j * 4 + 2, none⟩) hbF).trans (hcell 2 (by omega))
                    have hjI : (j : Int) < (c.flows.length : Int) := by omega
                    have hqb : decide ((j : Int) < 0) = false := by simp
                    have HI := Lib.hid hi
                    have lbF : bF < w5.heap.size := Nat.lt_of_lt_of_le hbF HBT5.out.size
                    clear hi hfk hatF hvs hcell hy HIN HRR hq0
                    obtain ⟨fr, hfr⟩ : ∃ t, t = if k = 1 then ot else x.first := ⟨_, rfl⟩
                    obtain ⟨tq, hto⟩ : ∃ t, t = if k = 1 then x.first else ot := ⟨_, rfl⟩
                    have hi := HI.out
                    rw [← hfr, ← hto] at hi
                    have HFR := Lib.hid hfr
                    have HTO := Lib.hid hto
                    have HI := Lib.hid hi
                    clear hi hfr hto
                    go_upto_if 75 with fail
                    go_cut [9, 10] (fun u v wx => u = .string fr ∧ v = .string tq ∧ Below w5.heap.size w5 wx)
                    case first =>
                      by_cases hk1 : k = 1
                      · have e1 : fr = ot := by rw [HFR.out, if_pos hk1]
                        have e2 : tq = x.first := by rw [HTO.out, if_pos hk1]
                        have hkb : ((k : Int) == 1) = true := by rw [hk1]; rfl
                        clear HFR HTO HI hk1
                        go_upto_region 14 with fail
                        refine wp_region_HT 4 (fun U => Below w5.heap.size w5 U) (by kernel_rfl) (by decide) ((Below.refl _ _).drew) (fun hHeld => ?_)
                        refine ht_take 0 (v := ?vn_1) rfl (by kernel_rfl) (fun _ _ _ h => h) (Or.inl ⟨by rfl, ?hn_1⟩) hHeld ?rn_1
                        case hn_1 => ((intro U hSw; have q2 : U.cell? ⟨gc + 1, 2, none⟩ = some (.string x.first) := (hSw.cell (p := ⟨gc + 1, 2, none⟩) lgx5).trans s2; go_simp); (try (with_reducible rfl)))
                        try simp only [Act.put, List.setIfInBounds_toArray, List.set_cons_zero, List.set_cons_succ]
                        refine ht_take 1 (v := ?vn_2) rfl (by kernel_rfl) (fun _ _ _ h => h) (Or.inl ⟨by rfl, ?hn_2⟩) hHeld ?rn_2
                        case hn_2 => ((intro U hSw; have q2 : U.cell? ⟨gc + 1, 2, none⟩ = some (.string x.first) := (hSw.cell (p := ⟨gc + 1, 2, none⟩) lgx5).trans s2; go_simp); (try (with_reducible rfl)))
                        try simp only [Act.put, List.setIfInBounds_toArray, List.set_cons_zero, List.set_cons_succ]
                        refine ht_take 2 (v := ?vn_3) rfl (by kernel_rfl) (fun _ _ _ h => h) (Or.inl ⟨by rfl, ?hn_3⟩) hHeld ?rn_3
                        case hn_3 => ((intro U hSw; have q2 : U.cell? ⟨gc + 1, 2, none⟩ = some (.string x.first) := (hSw.cell (p := ⟨gc + 1, 2, none⟩) lgx5).trans s2; go_simp); (try (with_reducible rfl)))
                        try simp only [Act.put, List.setIfInBounds_toArray, List.set_cons_zero, List.set_cons_succ]
                        refine ht_take 3 (v := ?vn_4) rfl (by kernel_rfl) (fun _ _ _ h => h) (Or.inl ⟨by rfl, ?hn_4⟩) hHeld ?rn_4
                        case hn_4 => ((intro U hSw; have q2 : U.cell? ⟨gc + 1, 2, none⟩ = some (.string x.first) := (hSw.cell (p := ⟨gc + 1, 2, none⟩) lgx5).trans s2; go_simp); (try (with_reducible rfl)))
                        try simp only [Act.put, List.setIfInBounds_toArray, List.set_cons_zero, List.set_cons_succ]
                        refine ht_done (by kernel_rfl) rfl ?_
                        have HH6 := Lib.hid hHeld
                        clear hHeld
                        go_wp2_with fail
                        go_meet
                        case rel => exact ⟨by rw [e1], by rw [e2], HH6.out⟩
                      · have e1 : fr = x.first := by rw [HFR.out, if_neg hk1]
                        have e2 : tq = ot := by rw [HTO.out, if_neg hk1]
                        have hkb : ((k : Int) == 1) = false := by simp; omega
                        clear HFR HTO HI hk1
                        go_wp2_with fail
                        go_meet
                        case rel => exact ⟨by rw [e1], by rw [e2], Below.refl _ _⟩
                    case rest =>
                      obtain ⟨rfl, rfl, hB6⟩ := hcut
                      obtain ⟨w6, rfl⟩ : ∃ T, T = wc := ⟨_, rfl⟩
                      have g1 : w6.cell? ⟨bF, j * 4 + 1, none⟩ = some (.string y.src) := (hB6.cell (p := ⟨bF, j * 4 + 1, none⟩) lbF).trans f1
                      have g2 : w6.cell? ⟨bF, j * 4 + 2, none⟩ = some (.string y.dst) := (hB6.cell (p := ⟨bF, j * 4 + 2, none⟩) lbF).trans f2
                      have gF : w6.cell? ⟨gc, 2, none⟩ = some (.slice (some ⟨bF, 0, none⟩) c.flows.length cF) := (hB6.cell (p := ⟨gc, 2, none⟩) (Nat.lt_trans (Nat.lt_succ_self gc) lgx5)).trans sF
                      have HFB6 := Lib.hid (HFB.out.trans (hB6.mono HFB.out.size))
                      have HBR6 := Lib.hid (HBR5.out.trans (hB6.mono HBR5.out.size))
                      clear hB6 f1 f2 s2 sF HFR HTO
                      cases hs : (y.src.toList == fr.toList)
                      · have hi := HI.out
                        rw [show eqS y.src fr = false from hs, Bool.false_and, Bool.false_and] at hi
                        subst hi
                        clear HI
                        go_wp2_with fail
                        go_ret
                        exact ⟨rfl, HFB6.out⟩
                      · cases hd : (y.dst.toList == tq.toList)
                        · have hi := HI.out
                          rw [show eqS y.dst tq = false from hd, Bool.and_false, Bool.false_and] at hi
                          subst hi
                          clear HI
                          go_wp2_with fail
                          go_ret
                          exact ⟨rfl, HFB6.out⟩
                        · have hi := HI.out
                          rw [show eqS y.src fr = true from hs, show eqS y.dst tq = true from hd, Bool.true_and, Bool.true_and] at hi
                          have HN := Lib.hid hi
                          clear HI hi
                          go_wp2_with fail
                          go_roundw
                          case rel => exact ⟨k + 1, by omega, by go_num, HN, HBR6.out⟩
                          case measure => simp [intOf]; omega
                · have hi := hinv.out
                  rw [List.drop_eq_nil_of_le (by omega), flOk] at hi
                  subst hi
                  have HFB := Lib.hid (HBV.out.trans (bT.mono HBV.out.size))
                  clear bT hB hinv
                  go_wp2_with fail
                  go_ret
                  exact ⟨rfl, HFB.out⟩
    · have hr := HR.out
      rw [show eqS p0 p1 = true from hpp, if_pos rfl] at hr
      subst hr
      clear HR
      refine wp_region_HT 34 (fun U => Below V.heap.size V U) (by kernel_rfl) (by decide) ((Below.refl _ _).drew) (fun hHeld => ?_)
      refine ht_take 0 (v := ?vb_1) rfl (by kernel_rfl) (fun _ _ _ h => h) (Or.inl ⟨by rfl, ?hb_1⟩) hHeld ?rb_1
      case hb_1 => ((intro U hSw; have ⟨q3, q2, q4, r0, r1⟩ := HYB.out U hSw; go_simp); (try (with_reducible rfl)))
      try simp only [Act.put, List.setIfInBounds_toArray, List.set_cons_zero, List.set_cons_succ]
      refine ht_take 1 (v := ?vb_2) rfl (by kernel_rfl) (fun _ _ _ h => h) (Or.inl ⟨by rfl, ?hb_2⟩) hHeld ?rb_2
      case hb_2 => ((intro U hSw; have ⟨q3, q2, q4, r0, r1⟩ := HYB.out U hSw; go_simp); (try (with_reducible rfl)))
      try simp only [Act.put, List.setIfInBounds_toArray, List.set_cons_zero, List.set_cons_succ]
      refine ht_take 2 (v := ?vb_3) rfl (by kernel_rfl) (fun _ _ _ h => h) (Or.inl ⟨by rfl, ?hb_3⟩) hHeld ?rb_3
      case hb_3 => ((intro U hSw; have ⟨q3, q2, q4, r0, r1⟩ := HYB.out U hSw; go_simp); (try (with_reducible rfl)))
      try simp only [Act.put, List.setIfInBounds_toArray, List.set_cons_zero, List.set_cons_succ]
      refine ht_take 3 (v := ?vb_4) rfl (by kernel_rfl) (fun _ _ _ h => h) (Or.inl ⟨by rfl, ?hb_4⟩) hHeld ?rb_4
      case hb_4 => ((intro U hSw; have ⟨q3, q2, q4, r0, r1⟩ := HYB.out U hSw; go_simp); (try (with_reducible rfl)))
      try simp only [Act.put, List.setIfInBounds_toArray, List.set_cons_zero, List.set_cons_succ]
      refine ht_take 4 (v := ?vb_5) rfl (by kernel_rfl) (fun _ _ _ h => h) (Or.inl ⟨by rfl, ?hb_5⟩) hHeld ?rb_5
      case hb_5 => ((intro U hSw; have ⟨q3, q2, q4, r0, r1⟩ := HYB.out U hSw; go_simp); (try (with_reducible rfl)))
      try simp only [Act.put, List.setIfInBounds_toArray, List.set_cons_zero, List.set_cons_succ]
      refine ht_take 5 (v := ?vb_6) rfl (by kernel_rfl) (fun _ _ _ h => h) (Or.inl ⟨by rfl, ?hb_6⟩) hHeld ?rb_6
      case hb_6 => ((intro U hSw; have ⟨q3, q2, q4, r0, r1⟩ := HYB.out U hSw; go_simp); (try (with_reducible rfl)))
      try simp only [Act.put, List.setIfInBounds_toArray, List.set_cons_zero, List.set_cons_succ]
      refine ht_take 6 (v := ?vb_7) rfl (by kernel_rfl) (fun _ _ _ h => h) (Or.inl ⟨by rfl, ?hb_7⟩) hHeld ?rb_7
      case hb_7 => ((intro U hSw; have ⟨q3, q2, q4, r0, r1⟩ := HYB.out U hSw; go_simp); (try (with_reducible rfl)))
      try simp only [Act.put, List.setIfInBounds_toArray, List.set_cons_zero, List.set_cons_succ]
      refine ht_take 7 (v := ?vb_8) rfl (by kernel_rfl) (fun _ _ _ h => h) (Or.inl ⟨by rfl, ?hb_8⟩) hHeld ?rb_8
      case hb_8 => ((intro U hSw; have ⟨q3, q2, q4, r0, r1⟩ := HYB.out U hSw; go_simp); (try (with_reducible rfl)))
      try simp only [Act.put, List.setIfInBounds_toArray, List.set_cons_zero, List.set_cons_succ]
      refine ht_take 8 (v := ?vb_9) rfl (by kernel_rfl) (fun _ _ _ h => h) (Or.inl ⟨by rfl, ?hb_9⟩) hHeld ?rb_9
      case hb_9 => ((intro U hSw; have ⟨q3, q2, q4, r0, r1⟩ := HYB.out U hSw; go_simp); (try (with_reducible rfl)))
      try simp only [Act.put, List.setIfInBounds_toArray, List.set_cons_zero, List.set_cons_succ]
      refine ht_take 9 (v := ?vb_10) rfl (by kernel_rfl) (fun _ _ _ h => h) (Or.inl ⟨by rfl, ?hb_10⟩) hHeld ?rb_10
      case hb_10 => ((intro U hSw; have ⟨q3, q2, q4, r0, r1⟩ := HYB.out U hSw; go_simp); (try (with_reducible rfl)))
      try simp only [Act.put, List.setIfInBounds_toArray, List.set_cons_zero, List.set_cons_succ]
      refine ht_take 10 (v := ?vb_11) rfl (by kernel_rfl) (fun _ _ _ h => h) (Or.inl ⟨by rfl, ?hb_11⟩) hHeld ?rb_11
      case hb_11 => ((intro U hSw; have ⟨q3, q2, q4, r0, r1⟩ := HYB.out U hSw; go_simp); (try (with_reducible rfl)))
      try simp only [Act.put, List.setIfInBounds_toArray, List.set_cons_zero, List.set_cons_succ]
      refine ht_take 11 (v := ?vb_12) rfl (by kernel_rfl) (fun _ _ _ h => h) (Or.inl ⟨by rfl, ?hb_12⟩) hHeld ?rb_12
      case hb_12 => ((intro U hSw; have ⟨q3, q2, q4, r0, r1⟩ := HYB.out U hSw; go_simp); (try (with_reducible rfl)))
      try simp only [Act.put, List.setIfInBounds_toArray, List.set_cons_zero, List.set_cons_succ]
      refine ht_take 12 (v := ?vb_13) rfl (by kernel_rfl) (fun _ _ _ h => h) (Or.inl ⟨by rfl, ?hb_13⟩) hHeld ?rb_13
      case hb_13 => ((intro U hSw; have ⟨q3, q2, q4, r0, r1⟩ := HYB.out U hSw; go_simp); (try (with_reducible rfl)))
      try simp only [Act.put, List.setIfInBounds_toArray, List.set_cons_zero, List.set_cons_succ]
      refine ht_take 13 (v := ?vb_14) rfl (by kernel_rfl) (fun _ _ _ h => h) (Or.inl ⟨by rfl, ?hb_14⟩) hHeld ?rb_14
      case hb_14 => ((intro U hSw; have ⟨q3, q2, q4, r0, r1⟩ := HYB.out U hSw; go_simp); (try (with_reducible rfl)))
      try simp only [Act.put, List.setIfInBounds_toArray, List.set_cons_zero, List.set_cons_succ]
      refine ht_take 14 (v := ?vb_15) rfl (by kernel_rfl) (fun _ _ _ h => h) (Or.inl ⟨by rfl, ?hb_15⟩) hHeld ?rb_15
      case hb_15 => ((intro U hSw; have ⟨q3, q2, q4, r0, r1⟩ := HYB.out U hSw; go_simp); (try (with_reducible rfl)))
      try simp only [Act.put, List.setIfInBounds_toArray, List.set_cons_zero, List.set_cons_succ]
      refine ht_take 15 (v := ?vb_16) rfl (by kernel_rfl) (fun _ _ _ h => h) (Or.inl ⟨by rfl, ?hb_16⟩) hHeld ?rb_16
      case hb_16 => ((intro U hSw; have ⟨q3, q2, q4, r0, r1⟩ := HYB.out U hSw; go_simp); (try (with_reducible rfl)))
      try simp only [Act.put, List.setIfInBounds_toArray, List.set_cons_zero, List.set_cons_succ]
      refine ht_take 16 (v := undef) rfl (by kernel_rfl) (fun _ _ _ h => h) (Or.inr ⟨by rfl, rfl⟩) hHeld ?rb_17
      try simp only [Act.put, List.setIfInBounds_toArray, List.set_cons_zero, List.set_cons_succ]
      refine ht_take 17 (v := undef) rfl (by kernel_rfl) (fun _ _ _ h => h) (Or.inr ⟨by rfl, rfl⟩) hHeld ?rb_18
      try simp only [Act.put, List.setIfInBounds_toArray, List.set_cons_zero, List.set_cons_succ]
      refine ht_take 18 (v := undef) rfl (by kernel_rfl) (fun _ _ _ h => h) (Or.inr ⟨by rfl, rfl⟩) hHeld ?rb_19
      try simp only [Act.put, List.setIfInBounds_toArray, List.set_cons_zero, List.set_cons_succ]
      refine ht_take 19 (v := undef) rfl (by kernel_rfl) (fun _ _ _ h => h) (Or.inr ⟨by rfl, rfl⟩) hHeld ?rb_20
      try simp only [Act.put, List.setIfInBounds_toArray, List.set_cons_zero, List.set_cons_succ]
      refine ht_take 20 (v := undef) rfl (by kernel_rfl) (fun _ _ _ h => h) (Or.inr ⟨by rfl, rfl⟩) hHeld ?rb_21
      try simp only [Act.put, List.setIfInBounds_toArray, List.set_cons_zero, List.set_cons_succ]
      refine ht_take 21 (v := undef) rfl (by kernel_rfl) (fun _ _ _ h => h) (Or.inr ⟨by rfl, rfl⟩) hHeld ?rb_22
      try simp only [Act.put, List.setIfInBounds_toArray, List.set_cons_zero, List.set_cons_succ]
      refine ht_take 22 (v := ?vb_23) rfl (by kernel_rfl) (fun _ _ _ h => h) (Or.inl ⟨by rfl, ?hb_23⟩) hHeld ?rb_23
      case hb_23 => ((intro U hSw; have ⟨q3, q2, q4, r0, r1⟩ := HYB.out U hSw; go_simp); (try (with_reducible rfl)))
      try simp only [Act.put, List.setIfInBounds_toArray, List.set_cons_zero, List.set_cons_succ]
      refine ht_take 23 (v := ?vb_24) rfl (by kernel_rfl) (fun _ _ _ h => h) (Or.inl ⟨by rfl, ?hb_24⟩) hHeld ?rb_24
      case hb_24 => ((intro U hSw; have ⟨q3, q2, q4, r0, r1⟩ := HYB.out U hSw; go_simp); (try (with_reducible rfl)))
      try simp only [Act.put, List.setIfInBounds_toArray, List.set_cons_zero, List.set_cons_succ]
      refine ht_take 24 (v := undef) rfl (by kernel_rfl) (fun _ _ _ h => h) (Or.inr ⟨by rfl, rfl⟩) hHeld ?rb_25
      try simp only [Act.put, List.setIfInBounds_toArray, List.set_cons_zero, List.set_cons_succ]
      refine ht_take 25 (v := undef) rfl (by kernel_rfl) (fun _ _ _ h => h) (Or.inr ⟨by rfl, rfl⟩) hHeld ?rb_26
      try simp only [Act.put, List.setIfInBounds_toArray, List.set_cons_zero, List.set_cons_succ]
      refine ht_take 26 (v := undef) rfl (by kernel_rfl) (fun _ _ _ h => h) (Or.inr ⟨by rfl, rfl⟩) hHeld ?rb_27
      try simp only [Act.put, List.setIfInBounds_toArray, List.set_cons_zero, List.set_cons_succ]
      refine ht_take 27 (v := undef) rfl (by kernel_rfl) (fun _ _ _ h => h) (Or.inr ⟨by rfl, rfl⟩) hHeld ?rb_28
      try simp only [Act.put, List.setIfInBounds_toArray, List.set_cons_zero, List.set_cons_succ]
      refine ht_take 28 (v := ?vb_29) rfl (by kernel_rfl) (fun _ _ _ h => h) (Or.inl ⟨by rfl, ?hb_29⟩) hHeld ?rb_29
      case hb_29 => ((intro U hSw; have ⟨q3, q2, q4, r0, r1⟩ := HYB.out U hSw; go_simp); (try (with_reducible rfl)))
      try simp only [Act.put, List.setIfInBounds_toArray, List.set_cons_zero, List.set_cons_succ]
      refine ht_take 29 (v := ?vb_30) rfl (by kernel_rfl) (fun _ _ _ h => h) (Or.inl ⟨by rfl, ?hb_30⟩) hHeld ?rb_30
      case hb_30 => ((intro U hSw; have ⟨q3, q2, q4, r0, r1⟩ := HYB.out U hSw; go_simp); (try (with_reducible rfl)))
      try simp only [Act.put, List.setIfInBounds_toArray, List.set_cons_zero, List.set_cons_succ]
      refine ht_take 30 (v := undef) rfl (by kernel_rfl) (fun _ _ _ h => h) (Or.inr ⟨by rfl, rfl⟩) hHeld ?rb_31
      try simp only [Act.put, List.setIfInBounds_toArray, List.set_cons_zero, List.set_cons_succ]
      refine ht_take 31 (v := undef) rfl (by kernel_rfl) (fun _ _ _ h => h) (Or.inr ⟨by rfl, rfl⟩) hHeld ?rb_32
      try simp only [Act.put, List.setIfInBounds_toArray, List.set_cons_zero, List.set_cons_succ]
      refine ht_take 32 (v := undef) rfl (by kernel_rfl) (fun _ _ _ h => h) (Or.inr ⟨by rfl, rfl⟩) hHeld ?rb_33
      try simp only [Act.put, List.setIfInBounds_toArray, List.set_cons_zero, List.set_cons_succ]
      refine ht_take 33 (v := undef) rfl (by kernel_rfl) (fun _ _ _ h => h) (Or.inr ⟨by rfl, rfl⟩) hHeld ?rb_34
      try simp only [Act.put, List.setIfInBounds_toArray, List.set_cons_zero, List.set_cons_succ]
      refine ht_done (by kernel_rfl) rfl ?_
      have HH := Lib.hid hHeld
      clear hHeld
      go_wp2_with fail
      go_ret
      exact ⟨rfl, HBV.out.trans (HH.out.mono HBV.out.size)⟩
  · have hr := HR.out
    rw [if_pos k2] at hr
    subst hr
    have hlen2 : ((x.parts.length : Int) != 2) = true := by simp; omega
    clear HR
    have HYA := Lib.hid (fun U (hSw : Below V.heap.size V U) => And.intro ((hSw.cell (p := ⟨gc + 1, 3, none⟩) lgx).trans x3) (And.intro ((hSw.cell (p := ⟨gc + 1, 2, none⟩) lgx).trans x2) ((hSw.cell (p := ⟨gc + 1, 4, none⟩) lgx).trans x4)))
    refine wp_region_HT 34 (fun U => Below V.heap.size V U) (by kernel_rfl) (by decide) ((Below.refl _ _).drew) (fun hHeld => ?_)
    refine ht_take 0 (v := ?va_1) rfl (by kernel_rfl) (fun _ _ _ h => h) (Or.inl ⟨by rfl, ?ha_1⟩) hHeld ?ra_1
    case ha_1 => ((intro U hSw; have ⟨q3, q2, q4⟩ := HYA.out U hSw; go_simp); (try (with_reducible rfl)))
    try simp only [Act.put, List.setIfInBounds_toArray, List.set_cons_zero, List.set_cons_succ]
    refine ht_take 1 (v := ?va_2) rfl (by kernel_rfl) (fun _ _ _ h => h) (Or.inl ⟨by rfl, ?ha_2⟩) hHeld ?ra_2
    case ha_2 => ((intro U hSw; have ⟨q3, q2, q4⟩ := HYA.out U hSw; go_simp); (try (with_reducible rfl)))
    try simp only [Act.put, List.setIfInBounds_toArray, List.set_cons_zero, List.set_cons_succ]
    refine ht_take 2 (v := ?va_3) rfl (by kernel_rfl) (fun _ _ _ h => h) (Or.inl ⟨by rfl, ?ha_3⟩) hHeld ?ra_3
    case ha_3 => ((intro U hSw; have ⟨q3, q2, q4⟩ := HYA.out U hSw; go_simp); (try (with_reducible rfl)))
    try simp only [Act.put, List.setIfInBounds_toArray, List.set_cons_zero, List.set_cons_succ]
    refine ht_take 3 (v := ?va_4) rfl (by kernel_rfl) (fun _ _ _ h => h) (Or.inl ⟨by rfl, ?ha_4⟩) hHeld ?ra_4
    case ha_4 => ((intro U hSw; have ⟨q3, q2, q4⟩ := HYA.out U hSw; go_simp); (try (with_reducible rfl)))
    try simp only [Act.put, List.setIfInBounds_toArray, List.set_cons_zero, List.set_cons_succ]
    refine ht_take 4 (v := ?va_5) rfl (by kernel_rfl) (fun _ _ _ h => h) (Or.inl ⟨by rfl, ?ha_5⟩) hHeld ?ra_5
    case ha_5 => ((intro U hSw; have ⟨q3, q2, q4⟩ := HYA.out U hSw; go_simp); (try (with_reducible rfl)))
    try simp only [Act.put, List.setIfInBounds_toArray, List.set_cons_zero, List.set_cons_succ]
    refine ht_take 5 (v := undef) rfl (by kernel_rfl) (fun _ _ _ h => h) (Or.inr ⟨by rfl, rfl⟩) hHeld ?ra_6
    try simp only [Act.put, List.setIfInBounds_toArray, List.set_cons_zero, List.set_cons_succ]
    refine ht_take 6 (v := undef) rfl (by kernel_rfl) (fun _ _ _ h => h) (Or.inr ⟨by rfl, rfl⟩) hHeld ?ra_7
    try simp only [Act.put, List.setIfInBounds_toArray, List.set_cons_zero, List.set_cons_succ]
    refine ht_take 7 (v := undef) rfl (by kernel_rfl) (fun _ _ _ h => h) (Or.inr ⟨by rfl, rfl⟩) hHeld ?ra_8
    try simp only [Act.put, List.setIfInBounds_toArray, List.set_cons_zero, List.set_cons_succ]
    refine ht_take 8 (v := undef) rfl (by kernel_rfl) (fun _ _ _ h => h) (Or.inr ⟨by rfl, rfl⟩) hHeld ?ra_9
    try simp only [Act.put, List.setIfInBounds_toArray, List.set_cons_zero, List.set_cons_succ]
    refine ht_take 9 (v := undef) rfl (by kernel_rfl) (fun _ _ _ h => h) (Or.inr ⟨by rfl, rfl⟩) hHeld ?ra_10
    try simp only [Act.put, List.setIfInBounds_toArray, List.set_cons_zero, List.set_cons_succ]
    refine ht_take 10 (v := undef) rfl (by kernel_rfl) (fun _ _ _ h => h) (Or.inr ⟨by rfl, rfl⟩) hHeld ?ra_11
    try simp only [Act.put, List.setIfInBounds_toArray, List.set_cons_zero, List.set_cons_succ]
    refine ht_take 11 (v := undef) rfl (by kernel_rfl) (fun _ _ _ h => h) (Or.inr ⟨by rfl, rfl⟩) hHeld ?ra_12
    try simp only [Act.put, List.setIfInBounds_toArray, List.set_cons_zero, List.set_cons_succ]
    refine ht_take 12 (v := undef) rfl (by kernel_rfl) (fun _ _ _ h => h) (Or.inr ⟨by rfl, rfl⟩) hHeld ?ra_13
    try simp only [Act.put, List.setIfInBounds_toArray, List.set_cons_zero, List.set_cons_succ]
    refine ht_take 13 (v := undef) rfl (by kernel_rfl) (fun _ _ _ h => h) (Or.inr ⟨by rfl, rfl⟩) hHeld ?ra_14
    try simp only [Act.put, List.setIfInBounds_toArray, List.set_cons_zero, List.set_cons_succ]
    refine ht_take 14 (v := ?va_15) rfl (by kernel_rfl) (fun _ _ _ h => h) (Or.inl ⟨by rfl, ?ha_15⟩) hHeld ?ra_15
    case ha_15 => ((intro U hSw; have ⟨q3, q2, q4⟩ := HYA.out U hSw; go_simp); (try (with_reducible rfl)))
    try simp only [Act.put, List.setIfInBounds_toArray, List.set_cons_zero, List.set_cons_succ]
    refine ht_take 15 (v := ?va_16) rfl (by kernel_rfl) (fun _ _ _ h => h) (Or.inl ⟨by rfl, ?ha_16⟩) hHeld ?ra_16
    case ha_16 => ((intro U hSw; have ⟨q3, q2, q4⟩ := HYA.out U hSw; go_simp); (try (with_reducible rfl)))
    try simp only [Act.put, List.setIfInBounds_toArray, List.set_cons_zero, List.set_cons_succ]
    refine ht_take 16 (v := undef) rfl (by kernel_rfl) (fun _ _ _ h => h) (Or.inr ⟨by rfl, rfl⟩) hHeld ?ra_17
    try simp only [Act.put, List.setIfInBounds_toArray, List.set_cons_zero, List.set_cons_succ]
    refine ht_take 17 (v := undef) rfl (by kernel_rfl) (fun _ _ _ h => h) (Or.inr ⟨by rfl, rfl⟩) hHeld ?ra_18
    try simp only [Act.put, List.setIfInBounds_toArray, List.set_cons_zero, List.set_cons_succ]
    refine ht_take 18 (v := undef) rfl (by kernel_rfl) (fun _ _ _ h => h) (Or.inr ⟨by rfl, rfl⟩) hHeld ?ra_19
    try simp only [Act.put, List.setIfInBounds_toArray, List.set_cons_zero, List.set_cons_succ]
    refine ht_take 19 (v := undef) rfl (by kernel_rfl) (fun _ _ _ h => h) (Or.inr ⟨by rfl, rfl⟩) hHeld ?ra_20
    try simp only [Act.put, List.setIfInBounds_toArray, List.set_cons_zero, List.set_cons_succ]
    refine ht_take 20 (v := undef) rfl (by kernel_rfl) (fun _ _ _ h => h) (Or.inr ⟨by rfl, rfl⟩) hHeld ?ra_21
    try simp only [Act.put, List.setIfInBounds_toArray, List.set_cons_zero, List.set_cons_succ]
    refine ht_take 21 (v := undef) rfl (by kernel_rfl) (fun _ _ _ h => h) (Or.inr ⟨by rfl, rfl⟩) hHeld ?ra_22
    try simp only [Act.put, List.setIfInBounds_toArray, List.set_cons_zero, List.set_cons_succ]
    refine ht_take 22 (v := ?va_23) rfl (by kernel_rfl) (fun _ _ _ h => h) (Or.inl ⟨by rfl, ?ha_23⟩) hHeld ?ra_23
    case ha_23 => ((intro U hSw; have ⟨q3, q2, q4⟩ := HYA.out U hSw; go_simp); (try (with_reducible rfl)))
    try simp only [Act.put, List.setIfInBounds_toArray, List.set_cons_zero, List.set_cons_succ]
    refine ht_take 23 (v := ?va_24) rfl (by kernel_rfl) (fun _ _ _ h => h) (Or.inl ⟨by rfl, ?ha_24⟩) hHeld ?ra_24
    case ha_24 => ((intro U hSw; have ⟨q3, q2, q4⟩ := HYA.out U hSw; go_simp); (try (with_reducible rfl)))
    try simp only [Act.put, List.setIfInBounds_toArray, List.set_cons_zero, List.set_cons_succ]
    refine ht_take 24 (v := undef) rfl (by kernel_rfl) (fun _ _ _ h => h) (Or.inr ⟨by rfl, rfl⟩) hHeld ?ra_25
    try simp only [Act.put, List.setIfInBounds_toArray, List.set_cons_zero, List.set_cons_succ]
    refine ht_take 25 (v := undef) rfl (by kernel_rfl) (fun _ _ _ h => h) (Or.inr ⟨by rfl, rfl⟩) hHeld ?ra_26
    try simp only [Act.put, List.setIfInBounds_toArray, List.set_cons_zero, List.set_cons_succ]
    refine ht_take 26 (v := undef) rfl (by kernel_rfl) (fun _ _ _ h => h) (Or.inr ⟨by rfl, rfl⟩) hHeld ?ra_27
    try simp only [Act.put, List.setIfInBounds_toArray, List.set_cons_zero, List.set_cons_succ]
    refine ht_take 27 (v := undef) rfl (by kernel_rfl) (fun _ _ _ h => h) (Or.inr ⟨by rfl, rfl⟩) hHeld ?ra_28
    try simp only [Act.put, List.setIfInBounds_toArray, List.set_cons_zero, List.set_cons_succ]
    refine ht_take 28 (v := ?va_29) rfl (by kernel_rfl) (fun _ _ _ h => h) (Or.inl ⟨by rfl, ?ha_29⟩) hHeld ?ra_29
    case ha_29 => ((intro U hSw; have ⟨q3, q2, q4⟩ := HYA.out U hSw; go_simp); (try (with_reducible rfl)))
    try simp only [Act.put, List.setIfInBounds_toArray, List.set_cons_zero, List.set_cons_succ]
    refine ht_take 29 (v := ?va_30) rfl (by kernel_rfl) (fun _ _ _ h => h) (Or.inl ⟨by rfl, ?ha_30⟩) hHeld ?ra_30
    case ha_30 => ((intro U hSw; have ⟨q3, q2, q4⟩ := HYA.out U hSw; go_simp); (try (with_reducible rfl)))
    try simp only [Act.put, List.setIfInBounds_toArray, List.set_cons_zero, List.set_cons_succ]
    refine ht_take 30 (v := undef) rfl (by kernel_rfl) (fun _ _ _ h => h) (Or.inr ⟨by rfl, rfl⟩) hHeld ?ra_31
    try simp only [Act.put, List.setIfInBounds_toArray, List.set_cons_zero, List.set_cons_succ]
    refine ht_take 31 (v := undef) rfl (by kernel_rfl) (fun _ _ _ h => h) (Or.inr ⟨by rfl, rfl⟩) hHeld ?ra_32
    try simp only [Act.put, List.setIfInBounds_toArray, List.set_cons_zero, List.set_cons_succ]
    refine ht_take 32 (v := undef) rfl (by kernel_rfl) (fun _ _ _ h => h) (Or.inr ⟨by rfl, rfl⟩) hHeld ?ra_33
    try simp only [Act.put, List.setIfInBounds_toArray, List.set_cons_zero, List.set_cons_succ]
    refine ht_take 33 (v := undef) rfl (by kernel_rfl) (fun _ _ _ h => h) (Or.inr ⟨by rfl, rfl⟩) hHeld ?ra_34
    try simp only [Act.put, List.setIfInBounds_toArray, List.set_cons_zero, List.set_cons_succ]
    refine ht_done (by kernel_rfl) rfl ?_
    have HH := Lib.hid hHeld
    clear hHeld
    go_wp2_with fail
    go_ret
    exact ⟨rfl, HBV.out.trans (HH.out.mono HBV.out.size)⟩
end Go.Proofs.Ytljmghaplnkohaa
