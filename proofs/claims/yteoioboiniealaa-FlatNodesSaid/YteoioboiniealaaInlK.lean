/- Whether there are calls among items: the contract of inline.Calls; the law's awake. -/
import Derived.Test.YteoioboiniealaaInlJ
namespace Go.Proofs.Yteoioboiniealaa
open Go.RowKit

mutual
/-- Is one a call, or is there a call within? -/
def callsI : ItemD → Bool
  | ⟨kind, _, _, _, _, _, _, _, items, _⟩ => kind == 8 || callsF items
def callsF : List ItemD → Bool
  | [] => false
  | x :: l => callsI x || callsF l
end
theorem callsI_eq (x : ItemD) : callsI x = (x.kind == 8 || callsF x.items) := by
  obtain ⟨kind, id, first, parts, flows, loop, called, maps, items, seqs⟩ := x
  rw [callsI]
theorem callsF_any : ∀ l : List ItemD, callsF l = l.any callsI
  | [] => by rw [callsF]; rfl
  | x :: l => by rw [callsF, callsF_any l]; rfl

set_option maxHeartbeats 1000000 in
theorem findCall_any {w : World} {v : Value} {l : List ItemD} (pf : ItemD → Bool) (hv : Rd w (itemsD l) v)
    (hp : ∀ x ∈ l, ∀ (U : World) (vP vF vM vI vS : Value), Below w.heap.size w U → ItemV w x vP vF vM vI vS → Calls Try.prog 52 #[.agg #[.int .i64 x.kind, .string x.id, .string x.first, vP, vF, .bool x.loop, .string x.called, vM, vI, vS]] U fun e w' => e = .returned (.bool (pf x)) ∧ Below U.heap.size U w') :
    Calls Try.prog 74 #[v, .func (.func 52) #[] #[]] w fun e w' => e = .returned (.int .i64 (findFrom pf l 0)) ∧ Below w.heap.size w w' := by
  obtain ⟨A, c, rfl, hlc, hcm, hat⟩ := rd_at itemC_len hv
  have hmx : l.length ≤ maxLen := by omega
  unfold maxLen at hmx
  have HAT := Lib.hid hat
  have HP := Lib.hid hp
  clear hat hv hcm hp
  go_enter Try.func74, Try.ntmps74
  go_wp2_with fail
  go_loopw [8] (fun v wr => ∃ k : Nat, k ≤ l.length ∧ v = .int .i64 k ∧ Hid (findFrom pf l 0 = findFrom pf (l.drop k) k) ∧ Below w.heap.size w wr) (fun v _ => l.length - (intOf v).toNat)
  case atStart => exact ⟨0, Nat.zero_le _, rfl, rfl, Below.refl _ _⟩
  case round =>
    obtain ⟨k, hk, rfl, hinv, hB⟩ := hrel
    have HB := Lib.hid hB
    have hsz := hB.size
    clear hB
    by_cases hlt : k < l.length
    · obtain ⟨b, vs, rfl, hbl, _, hvs, hcell⟩ := HAT.out k hlt
      have hd : l.drop k = l[k] :: l.drop (k + 1) := List.drop_eq_getElem_cons hlt
      have hi := hinv.out
      rw [hd, findFrom] at hi
      have hmem : l[k] ∈ l := List.getElem_mem hlt
      obtain ⟨x, hx⟩ : ∃ x, x = l[k] := ⟨_, rfl⟩
      rw [← hx] at hi hvs hmem
      obtain ⟨vP, vF, vM, vI, vS, rfl, hV⟩ := rd_itemC.1 hvs
      have x0 : wr.cell? ⟨b, k * 10, none⟩ = some (.int .i64 x.kind) := (HB.out.cell (p := ⟨b, k * 10, none⟩) hbl).trans (hcell 0 (by omega))
      have x1 : wr.cell? ⟨b, k * 10 + 1, none⟩ = some (.string x.id) := (HB.out.cell (p := ⟨b, k * 10 + 1, none⟩) hbl).trans (hcell 1 (by omega))
      have x2 : wr.cell? ⟨b, k * 10 + 2, none⟩ = some (.string x.first) := (HB.out.cell (p := ⟨b, k * 10 + 2, none⟩) hbl).trans (hcell 2 (by omega))
      have x3 : wr.cell? ⟨b, k * 10 + 3, none⟩ = some (vP) := (HB.out.cell (p := ⟨b, k * 10 + 3, none⟩) hbl).trans (hcell 3 (by omega))
      have x4 : wr.cell? ⟨b, k * 10 + 4, none⟩ = some (vF) := (HB.out.cell (p := ⟨b, k * 10 + 4, none⟩) hbl).trans (hcell 4 (by omega))
      have x5 : wr.cell? ⟨b, k * 10 + 5, none⟩ = some (.bool x.loop) := (HB.out.cell (p := ⟨b, k * 10 + 5, none⟩) hbl).trans (hcell 5 (by omega))
      have x6 : wr.cell? ⟨b, k * 10 + 6, none⟩ = some (.string x.called) := (HB.out.cell (p := ⟨b, k * 10 + 6, none⟩) hbl).trans (hcell 6 (by omega))
      have x7 : wr.cell? ⟨b, k * 10 + 7, none⟩ = some (vM) := (HB.out.cell (p := ⟨b, k * 10 + 7, none⟩) hbl).trans (hcell 7 (by omega))
      have x8 : wr.cell? ⟨b, k * 10 + 8, none⟩ = some (vI) := (HB.out.cell (p := ⟨b, k * 10 + 8, none⟩) hbl).trans (hcell 8 (by omega))
      have x9 : wr.cell? ⟨b, k * 10 + 9, none⟩ = some (vS) := (HB.out.cell (p := ⟨b, k * 10 + 9, none⟩) hbl).trans (hcell 9 (by omega))
      have hsp := HP.out x hmem wr vP vF vM vI vS HB.out hV
      have HSP := Lib.hid hsp
      clear hcell hd hinv hsp hvs hV hx
      cases ht : pf x
      · have HSP := Lib.hid (ht ▸ HSP.out)
        rw [ht, if_neg Bool.false_ne_true] at hi
        have Hi := Lib.hid hi
        clear hi ht
        go_wp2_with fail
        refine HSP.out.mono ?_
        rintro e w1 ⟨rfl, hb1⟩
        go_wp2_with fail
        go_roundw
        case rel => exact ⟨k + 1, by omega, by go_num, Hi, HB.out.trans (hb1.mono hsz)⟩
        case measure => simp [intOf]; omega
      · have HSP := Lib.hid (ht ▸ HSP.out)
        rw [ht, if_pos (rfl : true = true)] at hi
        have Hi := Lib.hid hi
        clear hi ht
        go_wp2_with fail
        refine HSP.out.mono ?_
        rintro e w1 ⟨rfl, hb1⟩
        go_wp2_with fail
        go_ret
        exact ⟨by rw [Hi.out]; rfl, HB.out.trans (hb1.mono hsz)⟩
    · have hi := hinv.out
      rw [List.drop_eq_nil_of_le (by omega), findFrom] at hi
      have Hi := Lib.hid hi
      clear hi
      go_wp2_with fail
      go_ret
      exact ⟨by rw [Hi.out]; rfl, HB.out⟩

theorem calls1_any {x : ItemD} {w0 w : World} {vP vF vM vI vS : Value} (hb : Below w0.heap.size w0 w) (hI : Rd w0 (itemsD x.items) vI)
    (hc : ∀ (U : World), Below w0.heap.size w0 U → Calls Try.prog 23 #[vI] U fun e w' => e = .returned (.bool (callsF x.items)) ∧ Below U.heap.size U w') :
    Calls Try.prog 52 #[.agg #[.int .i64 x.kind, .string x.id, .string x.first, vP, vF, .bool x.loop, .string x.called, vM, vI, vS]] w fun e w' => e = .returned (.bool (callsI x)) ∧ Below w.heap.size w w' := by
  rw [callsI_eq]
  obtain ⟨A, c, xs, rfl, _, _⟩ := rd_sl.1 hI
  have HC := Lib.hid hc
  have HB := Lib.hid hb
  have hs := hb.size
  clear hc hI hb
  rcases hk : (x.kind == 8) with _ | _
  · obtain ⟨r, hr⟩ : ∃ r, r = callsF x.items := ⟨_, rfl⟩
    have hcc := fun U h => HC.out U h
    rw [← hr] at hcc ⊢
    have HCC := Lib.hid hcc
    clear hr hcc HC
    go_enter Try.func52, Try.ntmps52
    go_wp2_with fail
    refine (HCC.out _ (HB.out.alloc hs _)).mono ?_
    rintro e w1 ⟨rfl, hb1⟩
    go_wp2_with fail
    go_ret
    exact ⟨by simp, ((Below.refl _ _).alloc (Nat.le_refl _) _).trans (hb1.mono (by simp))⟩
  · go_enter Try.func52, Try.ntmps52
    go_wp2_with fail
    go_ret
    exact ⟨by simp, (Below.refl _ _).alloc (Nat.le_refl _) _⟩
/-- inline.Calls, by what holds of the items within. -/
theorem calls_of {w0 w : World} {l : List ItemD} {v : Value} (hb : Below w0.heap.size w0 w) (hv : Rd w0 (itemsD l) v)
    (ih : ∀ x ∈ l, ∀ (w0 w : World) (v : Value), Below w0.heap.size w0 w → Rd w0 (itemsD x.items) v → Calls Try.prog 23 #[v] w fun e w' => e = .returned (.bool (callsF x.items)) ∧ Below w.heap.size w w') :
    Calls Try.prog 23 #[v] w fun e w' => e = .returned (.bool (callsF l)) ∧ Below w.heap.size w w' := by
  have hv2 := Rd.below hb _ _ hv
  have h1 := findCall_any callsI hv2 (fun x hx U vP vF vM vI vS hU hV => calls1_any (w0 := w) hU hV.2.2.2.1 (fun U2 h2 => ih x hx w U2 vI h2 hV.2.2.2.1))
  have hfin : decide (findFrom callsI l 0 ≥ 0) = callsF l := by rw [findFrom_ge, callsF_any]
  obtain ⟨A, c, xs, rfl, _, _⟩ := rd_sl.1 hv2
  obtain ⟨r, hr⟩ : ∃ r, r = callsF l := ⟨_, rfl⟩
  rw [← hr] at hfin ⊢
  have H1 := Lib.hid h1
  have HF := Lib.hid hfin
  clear h1 hfin hv hv2 ih hb hr
  go_enter Try.func23, Try.ntmps23
  go_wp2_with fail
  go_in
  go_wp2_with fail
  refine H1.out.mono ?_
  rintro e w1 ⟨rfl, hb1⟩
  generalize findFrom callsI l 0 = q at *
  go_wp2_with fail
  go_ret
  exact ⟨ret_bool (by have := HF.out; simpa using this), hb1⟩
mutual
theorem calls_item : ∀ (x : ItemD) (w0 w : World) (v : Value), Below w0.heap.size w0 w → Rd w0 (itemsD x.items) v → Calls Try.prog 23 #[v] w fun e w' => e = .returned (.bool (callsF x.items)) ∧ Below w.heap.size w w'
  | ⟨_, _, _, _, _, _, _, _, items, _⟩, _, _, _, hb, hv => calls_of hb hv (calls_mem items)
theorem calls_mem : ∀ (l : List ItemD), ∀ x ∈ l, ∀ (w0 w : World) (v : Value), Below w0.heap.size w0 w → Rd w0 (itemsD x.items) v → Calls Try.prog 23 #[v] w fun e w' => e = .returned (.bool (callsF x.items)) ∧ Below w.heap.size w w'
  | [], x, hx, _, _, _, _, _ => absurd hx (by simp)
  | y :: l, x, hx, w0, w, v, hb, hv => by
    have h1 := calls_item y
    have h2 := calls_mem l
    rcases List.mem_cons.1 hx with h | h
    · rw [h] at hv ⊢
      exact h1 w0 w v hb hv
    · exact h2 x h w0 w v hb hv
end
end Go.Proofs.Yteoioboiniealaa
