/- The law FlatNodes: its readers: the place of an id, a message flow by its id, where one comes into an item or goes out of it, The law FlatNodes: the nodes of items, The law FlatNodes: what follows what, by ids, joined. -/
import Derived.Test.YteoioboiniealaaFlaB
import Derived.Test.YteoioboiniealaaApp
import Derived.Deep.AppendLies
import Derived.Test.YteoioboiniealaaReg
import Derived.Deep.DeepCutAuto
namespace Go.Proofs.Yteoioboiniealaa
open Go.RowKit
attribute [local go_sem ↓] Go.wp_at_zero Go.wp_at_succ

set_option maxHeartbeats 1000000 in
theorem lfind_any {w : World} {v : Value} {l : List ByteArray} (s : ByteArray) (hv : Rd w (strsD l) v) :
    Calls Try.prog 35 #[v, .string s] w fun e w' => e = .returned (.int .i64 (placeF l s)) ∧ w = w' := by
  obtain ⟨A, c, rfl, hlc, hcm, hat⟩ := rd_at strC_len hv
  have hmx : l.length ≤ maxLen := by omega
  unfold maxLen at hmx
  have HAT := Lib.hid hat
  clear hat hv hcm
  unfold placeF
  obtain ⟨pf, hpf⟩ : ∃ pf : ByteArray → Bool, pf = (eqS · s) := ⟨_, rfl⟩
  rw [← hpf]
  have HP := Lib.hid hpf
  clear hpf
  go_enter Try.func35, Try.ntmps35
  go_wp2_with fail
  go_loop [5] (fun v => ∃ k : Nat, k ≤ l.length ∧ v = .int .i64 k ∧ Hid (findFrom pf l 0 = findFrom pf (l.drop k) k)) (fun v => l.length - (intOf v).toNat)
  case atStart => exact ⟨0, Nat.zero_le _, rfl, rfl⟩
  case round =>
    obtain ⟨k, hk, rfl, hinv⟩ := hrel
    by_cases hlt : k < l.length
    · obtain ⟨b, vs, rfl, hbl, _, hvs, hcell⟩ := HAT.out k hlt
      have hd : l.drop k = l[k] :: l.drop (k + 1) := List.drop_eq_getElem_cons hlt
      have hi := hinv.out
      rw [hd, findFrom] at hi
      have hpk : pf l[k] = (l[k].toList == s.toList) := by rw [HP.out]; rfl
      rw [hpk] at hi
      generalize l[k] = x at *
      obtain rfl := rd_strC hvs
      have x0 : w.cell? ⟨b, k, none⟩ = some (.string x) := by have := hcell 0 (by omega); simpa using this
      clear hcell hd hinv hpk hvs
      rcases ht : (x.toList == s.toList) with _ | _
      · rw [ht, if_neg Bool.false_ne_true] at hi
        have Hi := Lib.hid hi
        clear hi
        go_wp2_with fail
        go_round
        case rel => exact ⟨k + 1, by omega, by go_num, Hi⟩
        case measure => simp [intOf]; omega
      · rw [ht, if_pos (rfl : true = true)] at hi
        have Hi := Lib.hid hi
        clear hi
        go_wp2_with fail
        go_ret
        exact ⟨by rw [Hi.out]; rfl, rfl⟩
    · have hi := hinv.out
      rw [List.drop_eq_nil_of_le (by omega), findFrom] at hi
      have Hi := Lib.hid hi
      clear hi
      go_wp2_with fail
      go_ret
      exact ⟨by rw [Hi.out]; rfl, rfl⟩

/-- The message flow of an id. -/
def lflowF (id : ByteArray) : List FlowD → FlowD
  | [] => ⟨⟨#[]⟩, ⟨#[]⟩, ⟨#[]⟩, ⟨#[]⟩⟩
  | x :: l => if eqS x.id id = true then x else lflowF id l
theorem ret_lflow {W : World} {g : Nat} {v0 v1 v2 v3 : Value} {tmps : Array Value} (h : Blk W g 40 #[v0, v1, v2, v3]) (ht : tmps.getD 4 undef = .pointer (some ⟨g, 0, none⟩)) :
    (results Try.f34 tmps).run Try.prog W = .ok (.agg #[v0, v1, v2, v3]) W := by
  have x0 : W.cell? ⟨g, 0, none⟩ = some v0 := h.cell 0
  have x1 : W.cell? ⟨g, 1, none⟩ = some v1 := h.cell 1
  have x2 : W.cell? ⟨g, 2, none⟩ = some v2 := h.cell 2
  have x3 : W.cell? ⟨g, 3, none⟩ = some v3 := h.cell 3
  simp [results, Try.results34, go_sem, ht, x0, x1, x2, x3, -Array.getD_eq_getD_getElem?]
set_option maxHeartbeats 2000000 in
theorem lflow_any {w : World} {l : List FlowD} {AF : Option Addr} {cF : Nat} (u0 u1 u3 u4 : Value) (s : ByteArray) (hv : Rd w (flowsD l) (.slice AF l.length cF)) :
    Calls Try.prog 34 #[.agg #[u0, u1, .slice AF l.length cF, u3, u4], .string s] w fun e w' => e = .returned (.agg #[.string (lflowF s l).id, .string (lflowF s l).src, .string (lflowF s l).dst, .string (lflowF s l).msg]) ∧ Below w.heap.size w w' := by
  obtain ⟨A, c, hvv, hlc, hcm, hat⟩ := rd_at flowC_len hv
  injection hvv with e1 _ e3
  subst e1
  subst e3
  have hmx : l.length ≤ maxLen := by omega
  unfold maxLen at hmx
  obtain ⟨V, hV⟩ : ∃ V, V = (w.alloc (.cells #[u0, u1, .slice AF l.length cF, u3, u4] 28)).alloc (.cells #[.string ⟨#[]⟩, .string ⟨#[]⟩, .string ⟨#[]⟩, .string ⟨#[]⟩] 40) := ⟨_, rfl⟩
  have bV : Below w.heap.size w V := by rw [hV]; exact ((Below.refl _ _).alloc (Nat.le_refl _) _).alloc (by simp) _
  have kc : Blk V w.heap.size 28 #[u0, u1, .slice AF l.length cF, u3, u4] := by rw [hV]; exact (Blk.new w _ _).alloc _
  have kf : Blk V (w.heap.size + 1) 40 #[.string ⟨#[]⟩, .string ⟨#[]⟩, .string ⟨#[]⟩, .string ⟨#[]⟩] := by
    have := Blk.new (w.alloc (.cells #[u0, u1, .slice AF l.length cF, u3, u4] 28)) 40 #[.string ⟨#[]⟩, .string ⟨#[]⟩, .string ⟨#[]⟩, .string ⟨#[]⟩]
    rw [show (w.alloc (.cells #[u0, u1, .slice AF l.length cF, u3, u4] 28)).heap.size = w.heap.size + 1 by simp] at this
    rw [hV]; exact this
  obtain ⟨gc, hgc⟩ : ∃ g, g = w.heap.size := ⟨_, rfl⟩
  rw [← hgc] at kc kf bV ⊢
  have q2 : V.cell? ⟨gc, 2, none⟩ = some (.slice AF l.length cF) := kc.cell 2
  have f0 : V.frozen? ⟨gc + 1, 0, none⟩ = false := kf.frozen 0
  have f1 : V.frozen? ⟨gc + 1, 1, none⟩ = false := kf.frozen 1
  have f2 : V.frozen? ⟨gc + 1, 2, none⟩ = false := kf.frozen 2
  have f3 : V.frozen? ⟨gc + 1, 3, none⟩ = false := kf.frozen 3
  have y0 : V.cell? ⟨gc + 1, 0, none⟩ = some (.string ⟨#[]⟩) := kf.cell 0
  have y1 : V.cell? ⟨gc + 1, 1, none⟩ = some (.string ⟨#[]⟩) := kf.cell 1
  have y2 : V.cell? ⟨gc + 1, 2, none⟩ = some (.string ⟨#[]⟩) := kf.cell 2
  have y3 : V.cell? ⟨gc + 1, 3, none⟩ = some (.string ⟨#[]⟩) := kf.cell 3
  have lc := kc.lt
  have lf := kf.lt
  have hwV := bV.size
  have hAT : ∀ (k : Nat) (_ : k < l.length), ∃ b vs, AF = some ⟨b, 0, none⟩ ∧ b < gc ∧ vs.length = 4 ∧ RdL w (flowC l[k]) vs ∧ ∀ j, j < 4 → V.cell? ⟨b, k * 4 + j, none⟩ = vs[j]? := fun k hk => by
    obtain ⟨b, vs, h1, h2, h3, h4, h5⟩ := hat k hk
    exact ⟨b, vs, h1, by omega, h3, h4, fun j hj => (bV.cell (p := ⟨b, k * 4 + j, none⟩) (by show b < gc; omega)).trans (h5 j hj)⟩
  have hend : ∀ x : FlowD, Blk (putAll V (gc + 1) 0 [.string x.id, .string x.src, .string x.dst, .string x.msg]) (gc + 1) 40 #[.string x.id, .string x.src, .string x.dst, .string x.msg] ∧ Below gc w (putAll V (gc + 1) 0 [.string x.id, .string x.src, .string x.dst, .string x.msg]) := fun x => ⟨putAll_blk _ 0 V _ kf rfl, putAll_below (Nat.le_succ _) _ 0 _ bV⟩
  have HAT := Lib.hid hAT
  have HV := Lib.hid hV.symm
  have HGC := Lib.hid hgc.symm
  have HEND := Lib.hid hend
  clear hat hv hcm hV hgc kc kf bV hAT hend
  obtain ⟨R, hR⟩ : ∃ R, R = lflowF s l := ⟨_, rfl⟩
  rw [← hR]
  have HR := Lib.hid hR
  clear hR
  go_enter Try.func34, Try.ntmps34
  go_upto_region 1 with fail
  rw [HV.out, HGC.out]
  clear HV
  go_wp2_with fail
  go_loop [5] (fun v => ∃ k : Nat, k ≤ l.length ∧ v = .int .i64 k ∧ Hid (R = lflowF s (l.drop k))) (fun v => l.length - (intOf v).toNat)
  case atStart => exact ⟨0, Nat.zero_le _, rfl, HR⟩
  case round =>
    obtain ⟨k, hk, rfl, hinv⟩ := hrel
    by_cases hlt : k < l.length
    · obtain ⟨b, vs, rfl, hbl, _, hvs, hcell⟩ := HAT.out k hlt
      have hd : l.drop k = l[k] :: l.drop (k + 1) := List.drop_eq_getElem_cons hlt
      have hi := hinv.out
      rw [hd, lflowF] at hi
      have hpk : eqS l[k].id s = (l[k].id.toList == s.toList) := rfl
      rw [hpk] at hi
      generalize l[k] = x at *
      obtain rfl := rd_flowC hvs
      have x0 : V.cell? ⟨b, k * 4, none⟩ = some (.string x.id) := hcell 0 (by omega)
      have x1 : V.cell? ⟨b, k * 4 + 1, none⟩ = some (.string x.src) := hcell 1 (by omega)
      have x2 : V.cell? ⟨b, k * 4 + 2, none⟩ = some (.string x.dst) := hcell 2 (by omega)
      have x3 : V.cell? ⟨b, k * 4 + 3, none⟩ = some (.string x.msg) := hcell 3 (by omega)
      have hkI : (k : Int) < (l.length : Int) := by omega
      have hne0 : b ≠ gc + 1 := by omega
      clear hcell hd hinv hpk hvs
      rcases ht : (x.id.toList == s.toList) with _ | _
      · rw [ht, if_neg Bool.false_ne_true] at hi
        have Hi := Lib.hid hi
        clear hi
        go_wp2_with fail
        go_round
        case rel => exact ⟨k + 1, by omega, by go_num, Hi⟩
        case measure => simp [intOf]; omega
      · rw [ht, if_pos (rfl : true = true)] at hi
        subst hi
        obtain ⟨kE, bE⟩ := HEND.out R
        have HB := Lib.hid bE
        have HKE := Lib.hid kE
        clear kE bE
        go_wp2_with fail
        exact bodyPost_ret (ret_lflow HKE.out rfl) rfl ⟨rfl, by have := HGC.out; subst this; exact HB.out⟩
    · have hi := hinv.out
      rw [List.drop_eq_nil_of_le (by omega), lflowF] at hi
      subst hi
      obtain ⟨kE, bE⟩ := HEND.out ⟨⟨#[]⟩, ⟨#[]⟩, ⟨#[]⟩, ⟨#[]⟩⟩
      have HB := Lib.hid bE
      have HKE := Lib.hid kE
      clear kE bE
      go_wp2_with fail
      exact bodyPost_ret (ret_lflow HKE.out rfl) rfl ⟨rfl, by have := HGC.out; subst this; exact HB.out⟩

/-- Is it where one comes in (or goes out)? -/
def sideK (ins : Bool) (k : Int) : Bool := if ins = true then k == 1 else k == 2
def sideIn (ins : Bool) (r : ByteArray) : List ItemD → ByteArray
  | [] => r
  | y :: l => if sideK ins y.kind = true then y.id else sideIn ins r l
/-- Where one comes into an item, or goes out of it. -/
def sideF (id : ByteArray) (ins : Bool) : List ItemD → ByteArray
  | [] => ⟨#[]⟩
  | x :: l => if eqS x.id id = false then sideF id ins l else if x.kind = 7 then sideIn ins (sideF id ins l) x.items else id
set_option maxRecDepth 100000 in
set_option maxHeartbeats 4000000 in
theorem side_any {w : World} {v : Value} {l : List ItemD} (s : ByteArray) (ins : Bool) (hv : Rd w (itemsD l) v) :
    Calls Try.prog 58 #[v, .string s, .bool ins] w fun e w' => e = .returned (.string (sideF s ins l)) ∧ w = w' := by
  obtain ⟨A, c, rfl, hlc, hcm, hat⟩ := rd_at itemC_len hv
  have hmx : l.length ≤ maxLen := by omega
  unfold maxLen at hmx
  have HAT := Lib.hid hat
  clear hat hv hcm
  obtain ⟨R, hR⟩ : ∃ R, R = sideF s ins l := ⟨_, rfl⟩
  rw [← hR]
  have HR := Lib.hid hR
  clear hR
  go_enter Try.func58, Try.ntmps58
  go_wp2_with fail
  go_loop [7, 8] (fun v _ => ∃ k : Nat, k ≤ l.length ∧ v = .int .i64 k ∧ Hid (R = sideF s ins (l.drop k))) (fun v _ => l.length - (intOf v).toNat)
  case atStart => exact ⟨0, Nat.zero_le _, rfl, HR⟩
  case round =>
    obtain ⟨k, hk, rfl, hinv⟩ := hrel
    by_cases hlt : k < l.length
    · obtain ⟨b, vs, rfl, hbl, _, hvs, hcell⟩ := HAT.out k hlt
      have hd : l.drop k = l[k] :: l.drop (k + 1) := List.drop_eq_getElem_cons hlt
      have hi := hinv.out
      rw [hd, sideF] at hi
      have hpk : eqS l[k].id s = (l[k].id.toList == s.toList) := rfl
      rw [hpk] at hi
      generalize l[k] = x at *
      obtain ⟨v3, v4, v7, v8, v9, rfl, h3, h4, h7, h8, h9⟩ := rd_itemC.1 hvs
      obtain ⟨A8, c8, rfl, hl8, hm8, hat8⟩ := rd_at itemC_len h8
      have hmx8 : x.items.length ≤ maxLen := by omega
      unfold maxLen at hmx8
      have x0 : w.cell? ⟨b, k * 10, none⟩ = some (.int .i64 x.kind) := hcell 0 (by omega)
      have x1 : w.cell? ⟨b, k * 10 + 1, none⟩ = some (.string x.id) := hcell 1 (by omega)
      have x8 : w.cell? ⟨b, k * 10 + 8, none⟩ = some (.slice A8 x.items.length c8) := hcell 8 (by omega)
      have hkI : (k : Int) < (l.length : Int) := by omega
      have HAT8 := Lib.hid hat8
      clear hcell hd hinv hpk hvs h3 h4 h7 h8 h9 hat8 hm8
      rcases ht : (x.id.toList == s.toList) with _ | _
      · rw [ht, if_pos rfl] at hi
        have Hi := Lib.hid hi
        clear hi
        go_wp2_with fail
        go_round
        case rel => exact ⟨k + 1, by omega, by go_num, Hi⟩
        case measure => simp [intOf]; omega
      · rw [ht, if_neg (by decide)] at hi
        by_cases h7 : x.kind = 7
        · rw [if_pos h7] at hi
          have hk7 : (x.kind == 7) = true := by simp [h7]
          have HI := Lib.hid hi
          obtain ⟨its, hits⟩ : ∃ its, its = x.items := ⟨_, rfl⟩
          obtain ⟨n8, hn8⟩ : ∃ n, n = x.items.length := ⟨_, rfl⟩
          rw [← hits] at HAT8 HI
          rw [← hn8] at x8 hl8 hmx8
          have hn8' : n8 = its.length := by rw [hn8, hits]
          have HN8 := Lib.hid hn8'
          clear hi h7 hits hn8 hn8'
          go_upto_region 7 with fail
          go_wp2_with fail
          go_loop [8] (fun v => ∃ j : Nat, j ≤ n8 ∧ v = .int .i64 j ∧ Hid (R = sideIn ins (sideF s ins (l.drop (k + 1))) (its.drop j))) (fun v => n8 - (intOf v).toNat)
          case atStart => exact ⟨0, Nat.zero_le _, rfl, HI⟩
          case round =>
            obtain ⟨j, hj, rfl, hinv⟩ := hrel
            by_cases hlj : j < n8
            · obtain ⟨b2, vs, rfl, hb2, _, hvs, hcell⟩ := HAT8.out j (by have := HN8.out; omega)
              have hd : its.drop j = its[j]'(by have := HN8.out; omega) :: its.drop (j + 1) := List.drop_eq_getElem_cons _
              have hi := hinv.out
              rw [hd, sideIn] at hi
              obtain ⟨y, hy⟩ : ∃ y, y = its[j]'(by have := HN8.out; omega) := ⟨_, rfl⟩
              rw [← hy] at hvs hi
              obtain ⟨w3, w4, w7, w8, w9, rfl, _⟩ := rd_itemC.1 hvs
              have z0 : w.cell? ⟨b2, j * 10, none⟩ = some (.int .i64 y.kind) := hcell 0 (by omega)
              have z1 : w.cell? ⟨b2, j * 10 + 1, none⟩ = some (.string y.id) := hcell 1 (by omega)
              have hjI : (j : Int) < (n8 : Int) := by omega
              have Hi := Lib.hid hi
              clear hcell hd hinv hvs hi hy
              cases ins
              · by_cases h2 : y.kind = 2
                · have hk2 : (y.kind == 2) = true := by simp [h2]
                  have hi := Hi.out
                  rw [if_pos (by unfold sideK; simp [h2])] at hi
                  subst hi
                  clear Hi h2
                  generalize y.kind = yk at *
                  go_wp2_with fail
                  go_ret
                  exact ⟨rfl, rfl⟩
                · have hk2 : (y.kind == 2) = false := by simp [h2]
                  have hi := Hi.out
                  rw [if_neg (by unfold sideK; simp [h2])] at hi
                  have HI2 := Lib.hid hi
                  clear Hi h2 hi
                  generalize y.kind = yk at *
                  go_wp2_with fail
                  go_round
                  case rel => exact ⟨j + 1, by omega, by go_num, HI2⟩
                  case measure => simp [intOf]; omega
              · by_cases h2 : y.kind = 1
                · have hk2 : (y.kind == 1) = true := by simp [h2]
                  have hi := Hi.out
                  rw [if_pos (by unfold sideK; simp [h2])] at hi
                  subst hi
                  clear Hi h2
                  generalize y.kind = yk at *
                  go_wp2_with fail
                  go_ret
                  exact ⟨rfl, rfl⟩
                · have hk2 : (y.kind == 1) = false := by simp [h2]
                  have hi := Hi.out
                  rw [if_neg (by unfold sideK; simp [h2])] at hi
                  have HI2 := Lib.hid hi
                  clear Hi h2 hi
                  generalize y.kind = yk at *
                  go_wp2_with fail
                  go_round
                  case rel => exact ⟨j + 1, by omega, by go_num, HI2⟩
                  case measure => simp [intOf]; omega
            · have hi := hinv.out
              have hz : its.drop j = [] := List.drop_eq_nil_of_le (by have := HN8.out; omega)
              rw [hz, sideIn] at hi
              have HI2 := Lib.hid hi
              clear hi hinv
              go_wp2_with fail
              go_round
              case rel => exact ⟨k + 1, by omega, by go_num, HI2⟩
              case measure => simp [intOf]; omega
        · rw [if_neg h7] at hi
          have hk7 : (x.kind == 7) = false := by simp [h7]
          subst hi
          clear h7
          go_wp2_with fail
          go_ret
          exact ⟨rfl, rfl⟩
    · have hi := hinv.out
      rw [List.drop_eq_nil_of_le (by omega), sideF] at hi
      subst hi
      go_wp2_with fail
      go_ret
      exact ⟨rfl, rfl⟩
end Go.Proofs.Yteoioboiniealaa
namespace Go.Proofs.Yteoioboiniealaa
open Go.RowKit
attribute [local go_sem ↓] Go.wp_at_zero Go.wp_at_succ

theorem Try.infoItemL : (Try.prog.info? 33).map (fun i => (i.zero, i.size, i.bytes)) = some (some (.agg #[.int .i64 0, .string ⟨#[]⟩, .string ⟨#[]⟩, .slice none 0 0, .slice none 0 0, .bool false, .string ⟨#[]⟩, .slice none 0 0, .slice none 0 0, .slice none 0 0]), 10, 184) := by kernel_rfl
def nodeK (within : Bool) (k : Int) : Int := if within = true ∧ (k = 1 ∨ k = 2) then 4 else k
def withK (x : ItemD) (k : Int) : ItemD := ⟨k, x.id, x.first, x.parts, x.flows, x.loop, x.called, x.maps, x.items, x.seqs⟩
mutual
def levI (within : Bool) : ItemD → List ItemD
  | ⟨kind, id, first, parts, flows, loop, called, maps, items, seqs⟩ => if kind = 7 then levL true items else [⟨nodeK within kind, id, first, parts, flows, loop, called, maps, items, seqs⟩]
/-- The nodes of items, and of those within. -/
def levL (within : Bool) : List ItemD → List ItemD
  | [] => []
  | x :: l => levI within x ++ levL within l
end
theorem levI_eq (within : Bool) (x : ItemD) : levI within x = if x.kind = 7 then levL true x.items else [withK x (nodeK within x.kind)] := by
  obtain ⟨kind, id, first, parts, flows, loop, called, maps, items, seqs⟩ := x
  rw [levI]
  rfl
theorem levL_append (within : Bool) : ∀ a b : List ItemD, levL within (a ++ b) = levL within a ++ levL within b
  | [], b => by rw [levL]; rfl
  | x :: a, b => by rw [List.cons_append, levL, levL, levL_append within a b, List.append_assoc]
theorem levL_take (within : Bool) {l : List ItemD} {k : Nat} (hk : k < l.length) : levL within (l.take (k + 1)) = levL within (l.take k) ++ levI within l[k] := by
  rw [List.take_succ_eq_append_getElem hk, levL_append, levL, levL, List.append_nil]
theorem levL_take_le (within : Bool) (l : List ItemD) (k : Nat) : (levL within (l.take k)).length ≤ (levL within l).length := by
  conv => rhs; rw [← List.take_append_drop k l, levL_append]
  rw [List.length_append]
  exact Nat.le_add_right _ _
section
variable {S : Nat → Prop} {w : World}
theorem rdq_split : ∀ {ds es : List Dat} {xs : List Value}, RdPL S w (ds ++ es) xs → ∃ a b, xs = a ++ b ∧ RdPL S w ds a ∧ RdPL S w es b
  | [], es, xs, h => ⟨[], xs, rfl, rdpl_nil.2 rfl, h⟩
  | d :: ds, es, xs, h => by
    obtain ⟨v, r, rfl, hd, hl⟩ := rdpl_cons.1 h
    obtain ⟨a, b, rfl, ha, hb⟩ := rdq_split hl
    exact ⟨v :: a, b, rfl, rdpl_cons.2 ⟨v, a, rfl, hd, ha⟩, hb⟩
theorem rdq_at {α : Type} {sz : Nat} {f : α → List Dat} (hf : ∀ x, (f x).length = sz) : ∀ {l : List α} {xs : List Value} (k : Nat) (h : k < l.length), RdPL S w (l.flatMap f) xs → ∃ vs, vs.length = sz ∧ RdPL S w (f l[k]) vs ∧ ∀ j, j < sz → xs[k * sz + j]? = vs[j]?
  | x :: l, xs, 0, _, h => by
    rw [List.flatMap_cons] at h
    obtain ⟨a, b, rfl, ha, _⟩ := rdq_split h
    have hl := (RdPL.rd _ _ ha).len
    rw [hf] at hl
    exact ⟨a, hl, ha, fun j hj => by rw [Nat.zero_mul, Nat.zero_add, List.getElem?_append_left (by omega)]⟩
  | x :: l, xs, k + 1, hk, h => by
    rw [List.flatMap_cons] at h
    obtain ⟨a, b, rfl, ha, hb⟩ := rdq_split h
    have hl := (RdPL.rd _ _ ha).len
    rw [hf] at hl
    obtain ⟨vs, h1, h2, h3⟩ := rdq_at hf k (by simpa using hk) hb
    refine ⟨vs, h1, h2, fun j hj => ?_⟩
    rw [← h3 j hj, List.getElem?_append_right (by rw [hl, Nat.succ_mul]; omega)]
    congr 1
    rw [hl, Nat.succ_mul]
    omega
/-- An item's cells, all its blocks of a kind. -/
def ItemQ (S : Nat → Prop) (w : World) (x : ItemD) (vP vF vM vI vS : Value) : Prop := RdP S w (strsD x.parts) vP ∧ RdP S w (strsD x.flows) vF ∧ RdP S w (mapsD x.maps) vM ∧ RdP S w (itemsD x.items) vI ∧ RdP S w (seqsD x.seqs) vS
theorem rdq_item {x : ItemD} {vs : List Value} : RdPL S w (itemC x) vs ↔ ∃ vP vF vM vI vS, vs = [.int .i64 x.kind, .string x.id, .string x.first, vP, vF, .bool x.loop, .string x.called, vM, vI, vS] ∧ ItemQ S w x vP vF vM vI vS := by
  rw [itemC_eq]
  have hb : ∀ (b : Bool) (v : Value), RdP S w (.bool b) v ↔ v = .bool b := fun b v => by unfold RdP; exact Iff.rfl
  constructor
  · intro h
    obtain ⟨_, _, rfl, h0, h⟩ := rdpl_cons.1 h
    obtain ⟨_, _, rfl, h1, h⟩ := rdpl_cons.1 h
    obtain ⟨_, _, rfl, h2, h⟩ := rdpl_cons.1 h
    obtain ⟨_, _, rfl, h3, h⟩ := rdpl_cons.1 h
    obtain ⟨_, _, rfl, h4, h⟩ := rdpl_cons.1 h
    obtain ⟨_, _, rfl, h5, h⟩ := rdpl_cons.1 h
    obtain ⟨_, _, rfl, h6, h⟩ := rdpl_cons.1 h
    obtain ⟨_, _, rfl, h7, h⟩ := rdpl_cons.1 h
    obtain ⟨_, _, rfl, h8, h⟩ := rdpl_cons.1 h
    obtain ⟨_, _, rfl, h9, h⟩ := rdpl_cons.1 h
    obtain rfl := rdpl_nil.1 h
    rw [rdp_int.1 h0, rdp_str.1 h1, rdp_str.1 h2, (hb _ _).1 h5, rdp_str.1 h6]
    exact ⟨_, _, _, _, _, rfl, h3, h4, h7, h8, h9⟩
  · rintro ⟨vP, vF, vM, vI, vS, rfl, h3, h4, h7, h8, h9⟩
    exact rdpl_cons.2 ⟨_, _, rfl, rdp_int.2 rfl, rdpl_cons.2 ⟨_, _, rfl, rdp_str.2 rfl, rdpl_cons.2 ⟨_, _, rfl, rdp_str.2 rfl, rdpl_cons.2 ⟨_, _, rfl, h3, rdpl_cons.2 ⟨_, _, rfl, h4, rdpl_cons.2 ⟨_, _, rfl, (hb _ _).2 rfl, rdpl_cons.2 ⟨_, _, rfl, rdp_str.2 rfl, rdpl_cons.2 ⟨_, _, rfl, h7, rdpl_cons.2 ⟨_, _, rfl, h8, rdpl_cons.2 ⟨_, _, rfl, h9, rdpl_nil.2 rfl⟩⟩⟩⟩⟩⟩⟩⟩⟩⟩
theorem rdq_one : ∀ (ds : List Dat) (xs : List Value), RdPL S w ds xs → ∀ u ∈ xs, u.oneCell' = true
  | [], xs, h, u, hu => by rw [rdpl_nil.1 h] at hu; cases hu
  | d :: ds, xs, h, u, hu => by
    obtain ⟨v, r, rfl, hd, hl⟩ := rdpl_cons.1 h
    rcases List.mem_cons.1 hu with rfl | hu
    · have hd := RdP.rd _ _ hd
      cases d with
      | int n => rw [rd_int.1 hd]; rfl
      | str s => rw [rd_str.1 hd]; rfl
      | bool b => rw [rd_bool.1 hd]; rfl
      | sl e sz n cs => obtain ⟨A, c, _, rfl, _⟩ := rd_sl.1 hd; rfl
    · exact rdq_one ds r hl u hu
end
/-- A row of items of the call's own; what the items hold is old. -/
structure LevW (w : World) (N : Nat) (p : List ItemD) (n : Nat) (xs : List Value) (v : Value) (W : World) : Prop where
  bel : Below w.heap.size w W
  own : W.ownsRow w.heap.size 33 10 v n xs
  rd : RdPL (fun b => b < N) W (p.flatMap itemC) xs
section
variable {w W W1 : World} {N n m : Nat} {p q : List ItemD} {xs ys : List Value} {v v1 : Value}
theorem LevW.below (h : LevW w N p n xs v W) (k : Below W.heap.size W W1) : LevW w N p n xs v W1 := ⟨h.bel.trans (k.mono h.bel.size), own_below h.own k, h.rd.below k⟩
/-- More items. -/
theorem LevW.push (h : LevW w N p n xs v W) (hN : N ≤ w.heap.size) (hq : RdPL (fun b => b < N) W (q.flatMap itemC) ys) (hown : W1.ownsRow w.heap.size 33 10 v1 m (xs ++ ys)) (hg : W.grownBy W1 v.ownBlock) : LevW w N (p ++ q) m (xs ++ ys) v1 W1 := by
  have hsz := h.bel.size
  refine ⟨h.bel.grown hg hsz (fun k hk => (h.own.lt k hk).1), hown, ?_⟩
  rw [List.flatMap_append]
  refine RdPL.keep (fun b hb hl => ⟨hg.block b hl (fun e => ?_), hb⟩) _ _ (h.rd.append hq)
  have := (h.own.lt b e.symm).1
  omega
end
def LevE (w : World) (N : Nat) (p : List ItemD) (e : Ending) (w' : World) : Prop := ∃ A c xs, e = .returned (.slice A p.length c) ∧ LevW w N p p.length xs (.slice A p.length c) w'
def LlOk (l : List ItemD) : Prop := ∀ (w : World) (N : Nat) (v : Value) (within : Bool), N ≤ w.heap.size → RdP (fun b => b < N) w (itemsD l) v → Calls Try.prog 32 #[v, .bool within] w (LevE w N (levL within l))
set_option maxRecDepth 100000 in
set_option maxHeartbeats 8000000 in
theorem llev_step (l : List ItemD) (hll : l.length ≤ 100000) (hsz : ∀ b, (levL b l).length ≤ 100000) (hch : ∀ y ∈ l, y.kind = 7 → LlOk y.items) : LlOk l := by
  intro w N v within hN hv
  obtain ⟨A0, k0, xs0, rfl, ho0, _, hl0⟩ := rdp_sl.1 hv
  have hAT : ∀ (k : Nat) (_ : k < l.length), ∃ b vs, A0 = some ⟨b, 0, none⟩ ∧ b < w.heap.size ∧ RdPL (fun b => b < N) w (itemC l[k]) vs ∧ ∀ j, j < 10 → w.cell? ⟨b, k * 10 + j, none⟩ = vs[j]? := fun k hk => by
    obtain ⟨b, rfl, hb, _, hcell⟩ := own_at ho0 (by omega)
    obtain ⟨vs, hlen, hvs, hat⟩ := rdq_at itemC_len k hk hl0
    exact ⟨b, vs, rfl, hb, hvs, fun j hj => by rw [hcell _ (by omega), hat j hj]⟩
  obtain ⟨i0, hi0, hz0, hz1, hz2⟩ := info_parts Try.infoItemL
  have hsz1 := hsz within
  have HSZ := Lib.hid hsz
  have HAT := Lib.hid hAT
  have HCH := Lib.hid hch
  clear hv ho0 hl0 hAT hch hsz
  obtain ⟨L, hL⟩ : ∃ L, L = levL within l := ⟨_, rfl⟩
  have HL := Lib.hid hL
  rw [← hL] at hsz1 ⊢
  clear hL
  go_enter Try.func32, Try.ntmps32
  go_wp2_with fail
  go_loopw [5, 6, 7] (fun ov iv _ wr => ∃ (k n : Nat) (p : List ItemD) (xs : List Value) (A : Option Addr) (c : Nat), k ≤ l.length ∧ iv = .int .i64 k ∧ ov = .slice A n c ∧ Hid (p = levL within (l.take k) ∧ p.length = n) ∧ Hid (LevW w N p n xs (.slice A n c) wr)) (fun _ iv _ _ => l.length - (intOf iv).toNat)
  case atStart => exact ⟨0, 0, [], [], _, _, Nat.zero_le _, rfl, rfl, Lib.hid ⟨by rw [List.take_zero, levL], rfl⟩, Lib.hid ⟨(Below.refl _ _).alloc (Nat.le_refl _) _, World.ownsRow_lit (base := w.heap.size) w #[] 0 (Nat.le_refl _) (by decide) rfl, rdpl_nil.2 rfl⟩⟩
  case round =>
    obtain ⟨k, n, p, xs, A, c, hk, rfl, rfl, hP, hW⟩ := hrel
    obtain ⟨V, rfl⟩ : ∃ V, V = wr := ⟨_, rfl⟩
    by_cases hlt : k < l.length
    · obtain ⟨b, vs, rfl, hbl, hvs, hcell⟩ := HAT.out k hlt
      obtain ⟨x, hx⟩ : ∃ x, x = l[k] := ⟨_, rfl⟩
      have htk := levL_take within hlt
      have hpl := levL_take_le within l (k + 1)
      rw [htk, ← HL.out] at hpl
      rw [← hx] at hvs htk hpl
      rw [← hP.out.1] at htk hpl
      rw [List.length_append, hP.out.2, levI_eq] at hpl
      rw [levI_eq] at htk
      obtain ⟨v3, v4, v7, v8, v9, rfl, h3, h4, h7, h8, h9⟩ := rdq_item.1 hvs
      obtain ⟨A3, c3, _, rfl, _⟩ := rdp_sl.1 h3
      obtain ⟨A4, c4, _, rfl, _⟩ := rdp_sl.1 h4
      obtain ⟨A7, c7, _, rfl, _⟩ := rdp_sl.1 h7
      obtain ⟨A8, c8, _, rfl, _⟩ := rdp_sl.1 h8
      obtain ⟨A9, c9, _, rfl, _⟩ := rdp_sl.1 h9
      have hbV := hW.out.bel
      have hwV := hbV.size
      have e0 : V.cell? ⟨b, k * 10, none⟩ = some (.int .i64 x.kind) := (hbV.cell (p := ⟨b, k * 10, none⟩) hbl).trans (hcell 0 (by omega))
      have e1 : V.cell? ⟨b, k * 10 + 1, none⟩ = some (.string x.id) := (hbV.cell (p := ⟨b, k * 10 + 1, none⟩) hbl).trans (hcell 1 (by omega))
      have e2 : V.cell? ⟨b, k * 10 + 2, none⟩ = some (.string x.first) := (hbV.cell (p := ⟨b, k * 10 + 2, none⟩) hbl).trans (hcell 2 (by omega))
      have e3 : V.cell? ⟨b, k * 10 + 3, none⟩ = some (.slice A3 x.parts.length c3) := (hbV.cell (p := ⟨b, k * 10 + 3, none⟩) hbl).trans (hcell 3 (by omega))
      have e4 : V.cell? ⟨b, k * 10 + 4, none⟩ = some (.slice A4 x.flows.length c4) := (hbV.cell (p := ⟨b, k * 10 + 4, none⟩) hbl).trans (hcell 4 (by omega))
      have e5 : V.cell? ⟨b, k * 10 + 5, none⟩ = some (.bool x.loop) := (hbV.cell (p := ⟨b, k * 10 + 5, none⟩) hbl).trans (hcell 5 (by omega))
      have e6 : V.cell? ⟨b, k * 10 + 6, none⟩ = some (.string x.called) := (hbV.cell (p := ⟨b, k * 10 + 6, none⟩) hbl).trans (hcell 6 (by omega))
      have e7 : V.cell? ⟨b, k * 10 + 7, none⟩ = some (.slice A7 x.maps.length c7) := (hbV.cell (p := ⟨b, k * 10 + 7, none⟩) hbl).trans (hcell 7 (by omega))
      have e8 : V.cell? ⟨b, k * 10 + 8, none⟩ = some (.slice A8 x.items.length c8) := (hbV.cell (p := ⟨b, k * 10 + 8, none⟩) hbl).trans (hcell 8 (by omega))
      have e9 : V.cell? ⟨b, k * 10 + 9, none⟩ = some (.slice A9 x.seqs.length c9) := (hbV.cell (p := ⟨b, k * 10 + 9, none⟩) hbl).trans (hcell 9 (by omega))
      obtain ⟨gx, hgx⟩ : ∃ g, g = V.heap.size := ⟨_, rfl⟩
      obtain ⟨T1, hT1⟩ : ∃ T, T = V.alloc (.cells #[.int .i64 x.kind, .string x.id, .string x.first, .slice A3 x.parts.length c3, .slice A4 x.flows.length c4, .bool x.loop, .string x.called, .slice A7 x.maps.length c7, .slice A8 x.items.length c8, .slice A9 x.seqs.length c9] 33) := ⟨_, rfl⟩
      have bT1 : Below V.heap.size V T1 := by rw [hT1]; exact (Below.refl _ _).alloc (Nat.le_refl _) _
      have hbx : Blk T1 gx 33 #[.int .i64 x.kind, .string x.id, .string x.first, .slice A3 x.parts.length c3, .slice A4 x.flows.length c4, .bool x.loop, .string x.called, .slice A7 x.maps.length c7, .slice A8 x.items.length c8, .slice A9 x.seqs.length c9] := by rw [hT1, hgx]; exact Blk.new _ _ _
      have hQ : ItemQ (fun b => b < N) w x (.slice A3 x.parts.length c3) (.slice A4 x.flows.length c4) (.slice A7 x.maps.length c7) (.slice A8 x.items.length c8) (.slice A9 x.seqs.length c9) := ⟨h3, h4, h7, h8, h9⟩
      have HQ := Lib.hid hQ
      have HW1 := Lib.hid (hW.out.below bT1)
      have HBX := Lib.hid hbx
      have HTK := Lib.hid htk
      have HPL := Lib.hid hpl
      have HBV := Lib.hid (hbV.trans (bT1.mono hwV))
      have HT1 := Lib.hid hT1.symm
      have HGX := Lib.hid hgx.symm
      have HX := Lib.hid hx
      have kx := hbx
      have hgxw : w.heap.size ≤ gx := by omega
      have hn100 : n ≤ 100000 := by omega
      have hT1s := bT1.size
      have hkI : (k : Int) < (l.length : Int) := by omega
      have x0 : T1.cell? ⟨gx, 0, none⟩ = some (.int .i64 x.kind) := kx.cell 0
      have x1 : T1.cell? ⟨gx, 1, none⟩ = some (.string x.id) := kx.cell 1
      have x2 : T1.cell? ⟨gx, 2, none⟩ = some (.string x.first) := kx.cell 2
      have x3 : T1.cell? ⟨gx, 3, none⟩ = some (.slice A3 x.parts.length c3) := kx.cell 3
      have x4 : T1.cell? ⟨gx, 4, none⟩ = some (.slice A4 x.flows.length c4) := kx.cell 4
      have x5 : T1.cell? ⟨gx, 5, none⟩ = some (.bool x.loop) := kx.cell 5
      have x6 : T1.cell? ⟨gx, 6, none⟩ = some (.string x.called) := kx.cell 6
      have x7 : T1.cell? ⟨gx, 7, none⟩ = some (.slice A7 x.maps.length c7) := kx.cell 7
      have x8 : T1.cell? ⟨gx, 8, none⟩ = some (.slice A8 x.items.length c8) := kx.cell 8
      have x9 : T1.cell? ⟨gx, 9, none⟩ = some (.slice A9 x.seqs.length c9) := kx.cell 9
      have lgx := hbx.lt
      have fx0 : T1.frozen? ⟨gx, 0, none⟩ = false := hbx.frozen 0
      clear hvs hcell h3 h4 h7 h8 h9 hQ hbV bT1 hT1 hgx hbx hx htk hpl kx
      go_upto_region 6 with fail
      rw [HT1.out, HGX.out]
      clear HT1 e0 e1 e2 e3 e4 e5 e6 e7 e8 e9
      by_cases h7 : x.kind = 7
      · have hk7 : (x.kind == 7) = true := by simp [h7]
        have htk := HTK.out
        have hpl := HPL.out
        rw [if_pos h7] at htk hpl
        obtain ⟨q, hq⟩ : ∃ q, q = levL true x.items := ⟨_, rfl⟩
        have hcall := HCH.out x (by rw [HX.out]; exact List.getElem_mem hlt) h7 T1 N (.slice A8 x.items.length c8) true (Nat.le_trans hN HBV.out.size) (RdP.below HQ.out.2.2.2.1 HBV.out)
        rw [← hq] at htk hpl hcall
        obtain ⟨m, hm⟩ : ∃ m, m = q.length := ⟨_, rfl⟩
        rw [← hm] at hpl
        unfold LevE at hcall
        rw [← hm] at hcall
        have HCALL := Lib.hid hcall
        have HM := Lib.hid hm
        have HTK2 := Lib.hid htk
        clear HTK HPL htk hq hcall h7 hm
        go_wp2_with fail
        refine HCALL.out.mono ?_
        rintro e w2 ⟨A2, c2, ys, rfl, hL2⟩
        have HW2 := Lib.hid (HW1.out.below hL2.bel)
        have HL2 := Lib.hid hL2
        have hs2 := hL2.bel.size
        clear hL2 HCALL
        go_wp2_with (at_builtin; refine wpList_append_any _ rfl (.tmp 22) (.tmp 25) _ rfl w.heap.size 33 i0 _ 10 184 Try.underlying25 hi0 hz0 hz1 hz2 rfl (by omega) (.slice A n c) n xs rfl HW2.out.own w2.heap.size A2 m c2 ys rfl (Reads.of_own HL2.out.own) (rdq_one _ _ HL2.out.rd) (by unfold maxLen; omega) (by omega) (by omega) ?_)
        intro v5 w5 hown hgrow _
        have hW5 := HW2.out.push hN HL2.out.rd hown hgrow
        obtain ⟨A5, c5, rfl, _, _⟩ := own_slice hown
        have HW5 := Lib.hid hW5
        clear hW5 hown hgrow
        go_wp2_with fail
        go_roundw
        case rel => exact ⟨k + 1, n + m, p ++ q, xs ++ ys, A5, c5, by omega, by go_num, rfl, Lib.hid ⟨HTK2.out.symm, by rw [List.length_append, hP.out.2, HM.out]⟩, HW5⟩
        case measure => simp [intOf]; omega
      · have hk7 : (x.kind == 7) = false := by simp [h7]
        have htk := HTK.out
        have hpl := HPL.out
        rw [if_neg h7] at htk hpl
        rw [List.length_singleton] at hpl
        have HTK2 := Lib.hid htk
        clear HTK HPL htk h7
        cases within
        · have hK : nodeK false x.kind = x.kind := by unfold nodeK; rw [if_neg (by simp)]
          have HK := Lib.hid hK
          clear hK
          obtain ⟨T2, hT2⟩ : ∃ T, T = T1 := ⟨_, rfl⟩
          have hx2 : Blk T2 gx 33 #[.int .i64 x.kind, .string x.id, .string x.first, .slice A3 x.parts.length c3, .slice A4 x.flows.length c4, .bool x.loop, .string x.called, .slice A7 x.maps.length c7, .slice A8 x.items.length c8, .slice A9 x.seqs.length c9] := by rw [hT2]; exact HBX.out
          have HW2 : Hid (LevW w N p n xs (.slice A n c) T2) := by rw [hT2]; exact HW1
          have HT2 := Lib.hid hT2.symm
          have HX2 := Lib.hid hx2
          clear hT2 hx2
          go_upto_region 10 with fail
          rw [HT2.out]
          clear HT2
          clear x0 x1 x2 x3 x4 x5 x6 x7 x8 x9 fx0
          have y0 : T2.cell? ⟨gx, 0, none⟩ = some (.int .i64 x.kind) := HX2.out.cell 0
          have y1 : T2.cell? ⟨gx, 1, none⟩ = some (.string x.id) := HX2.out.cell 1
          have y2 : T2.cell? ⟨gx, 2, none⟩ = some (.string x.first) := HX2.out.cell 2
          have y3 : T2.cell? ⟨gx, 3, none⟩ = some (.slice A3 x.parts.length c3) := HX2.out.cell 3
          have y4 : T2.cell? ⟨gx, 4, none⟩ = some (.slice A4 x.flows.length c4) := HX2.out.cell 4
          have y5 : T2.cell? ⟨gx, 5, none⟩ = some (.bool x.loop) := HX2.out.cell 5
          have y6 : T2.cell? ⟨gx, 6, none⟩ = some (.string x.called) := HX2.out.cell 6
          have y7 : T2.cell? ⟨gx, 7, none⟩ = some (.slice A7 x.maps.length c7) := HX2.out.cell 7
          have y8 : T2.cell? ⟨gx, 8, none⟩ = some (.slice A8 x.items.length c8) := HX2.out.cell 8
          have y9 : T2.cell? ⟨gx, 9, none⟩ = some (.slice A9 x.seqs.length c9) := HX2.out.cell 9
          go_wp2_with (at_builtin; refine wpList_append_lies _ rfl (.tmp 39) (.tmp 41) _ rfl w.heap.size 33 i0 _ 10 184 Try.underlying25 hi0 hz0 hz1 hz2 rfl (by omega) (.slice A n c) n xs rfl (own_below HW2.out.own ((Below.refl _ _).alloc (Nat.le_refl _) _)) ⟨T2.heap.size, 0, none⟩ 1 1 [.int .i64 x.kind, .string x.id, .string x.first, .slice A3 x.parts.length c3, .slice A4 x.flows.length c4, .bool x.loop, .string x.called, .slice A7 x.maps.length c7, .slice A8 x.items.length c8, .slice A9 x.seqs.length c9] rfl rfl (World.news_of_block (cs := #[.int .i64 x.kind, .string x.id, .string x.first, .slice A3 x.parts.length c3, .slice A4 x.flows.length c4, .bool x.loop, .string x.called, .slice A7 x.maps.length c7, .slice A8 x.items.length c8, .slice A9 x.seqs.length c9]) (t := 33) (fr := (0, 0)) (heap_alloc_new T2 _)) (by simp [Value.oneCell']) (by omega) (by unfold maxLen; omega) (by omega) (by have := HW2.out.bel.size; simp; omega) (T2.heap.size + 1) (by simp) ?_)
          intro gA capA w5 hown hgrow _ _
          have hq : RdPL (fun b => b < N) (T2.alloc (.cells #[.int .i64 x.kind, .string x.id, .string x.first, .slice A3 x.parts.length c3, .slice A4 x.flows.length c4, .bool x.loop, .string x.called, .slice A7 x.maps.length c7, .slice A8 x.items.length c8, .slice A9 x.seqs.length c9] 33)) ([withK x (nodeK false x.kind)].flatMap itemC) [.int .i64 x.kind, .string x.id, .string x.first, .slice A3 x.parts.length c3, .slice A4 x.flows.length c4, .bool x.loop, .string x.called, .slice A7 x.maps.length c7, .slice A8 x.items.length c8, .slice A9 x.seqs.length c9] := by
            rw [HK.out, List.flatMap_cons, List.flatMap_nil, List.append_nil]
            have hb := HW2.out.bel.trans ((Below.refl T2.heap.size T2).alloc (Nat.le_refl _) (.cells #[.int .i64 x.kind, .string x.id, .string x.first, .slice A3 x.parts.length c3, .slice A4 x.flows.length c4, .bool x.loop, .string x.called, .slice A7 x.maps.length c7, .slice A8 x.items.length c8, .slice A9 x.seqs.length c9] 33) |>.mono HW2.out.bel.size)
            obtain ⟨q3, q4, q7, q8, q9⟩ := HQ.out
            exact rdq_item.2 ⟨_, _, _, _, _, rfl, RdP.below q3 hb, RdP.below q4 hb, RdP.below q7 hb, RdP.below q8 hb, RdP.below q9 hb⟩
          have hW5 := (HW2.out.below ((Below.refl T2.heap.size T2).alloc (Nat.le_refl _) (.cells #[.int .i64 x.kind, .string x.id, .string x.first, .slice A3 x.parts.length c3, .slice A4 x.flows.length c4, .bool x.loop, .string x.called, .slice A7 x.maps.length c7, .slice A8 x.items.length c8, .slice A9 x.seqs.length c9] 33))).push hN hq hown hgrow
          have HW5 := Lib.hid hW5
          clear hW5 hown hgrow hq
          go_wp2_with fail
          go_roundw
          case rel => exact ⟨k + 1, n + 1, p ++ [withK x (nodeK false x.kind)], xs ++ [.int .i64 x.kind, .string x.id, .string x.first, .slice A3 x.parts.length c3, .slice A4 x.flows.length c4, .bool x.loop, .string x.called, .slice A7 x.maps.length c7, .slice A8 x.items.length c8, .slice A9 x.seqs.length c9], some ⟨gA, 0, none⟩, capA, by omega, by go_num, rfl, Lib.hid ⟨HTK2.out.symm, by rw [List.length_append, hP.out.2]; rfl⟩, HW5⟩
          case measure => simp [intOf]; omega
        · by_cases h1 : x.kind = 1
          · have hk1 : (x.kind == 1) = true := by simp [h1]
            have hK : nodeK true x.kind = 4 := by unfold nodeK; rw [if_pos ⟨rfl, .inl h1⟩]
            have HK := Lib.hid hK
            clear hK h1
            obtain ⟨T2, hT2⟩ : ∃ T, T = T1.setCell ⟨gx, 0, none⟩ (.int .i64 4) := ⟨_, rfl⟩
            have hx2 : Blk T2 gx 33 #[.int .i64 4, .string x.id, .string x.first, .slice A3 x.parts.length c3, .slice A4 x.flows.length c4, .bool x.loop, .string x.called, .slice A7 x.maps.length c7, .slice A8 x.items.length c8, .slice A9 x.seqs.length c9] := by rw [hT2]; exact HBX.out.set_ 0 _
            have hW2 : LevW w N p n xs (.slice A n c) T2 := by
              have h := HW1.out
              rw [hT2]
              have hne : (Value.slice A n c).ownBlock ≠ some gx := fun e => by have := (hW.out.own.lt gx e).2; have := HGX.out; omega
              refine ⟨h.bel.setCell (p := ⟨gx, 0, none⟩) hgxw _, ownsRow_setCell_other (a := ⟨gx, 0, none⟩) h.own hne _, ?_⟩
              exact RdPL.keep (fun b hb hl => ⟨Below.heap_setCell T1 ⟨gx, 0, none⟩ _ b (fun e => by have e2 : b = gx := e; omega), hb⟩) _ _ h.rd
            have HW2 := Lib.hid hW2
            have HT2 := Lib.hid hT2.symm
            have HX2 := Lib.hid hx2
            clear hT2 hx2 hW2
            go_upto_region 10 with fail
            rw [HT2.out]
            clear HT2
            clear x0 x1 x2 x3 x4 x5 x6 x7 x8 x9 fx0
            have y0 : T2.cell? ⟨gx, 0, none⟩ = some (.int .i64 4) := HX2.out.cell 0
            have y1 : T2.cell? ⟨gx, 1, none⟩ = some (.string x.id) := HX2.out.cell 1
            have y2 : T2.cell? ⟨gx, 2, none⟩ = some (.string x.first) := HX2.out.cell 2
            have y3 : T2.cell? ⟨gx, 3, none⟩ = some (.slice A3 x.parts.length c3) := HX2.out.cell 3
            have y4 : T2.cell? ⟨gx, 4, none⟩ = some (.slice A4 x.flows.length c4) := HX2.out.cell 4
            have y5 : T2.cell? ⟨gx, 5, none⟩ = some (.bool x.loop) := HX2.out.cell 5
            have y6 : T2.cell? ⟨gx, 6, none⟩ = some (.string x.called) := HX2.out.cell 6
            have y7 : T2.cell? ⟨gx, 7, none⟩ = some (.slice A7 x.maps.length c7) := HX2.out.cell 7
            have y8 : T2.cell? ⟨gx, 8, none⟩ = some (.slice A8 x.items.length c8) := HX2.out.cell 8
            have y9 : T2.cell? ⟨gx, 9, none⟩ = some (.slice A9 x.seqs.length c9) := HX2.out.cell 9
            go_wp2_with (at_builtin; refine wpList_append_lies _ rfl (.tmp 39) (.tmp 41) _ rfl w.heap.size 33 i0 _ 10 184 Try.underlying25 hi0 hz0 hz1 hz2 rfl (by omega) (.slice A n c) n xs rfl (own_below HW2.out.own ((Below.refl _ _).alloc (Nat.le_refl _) _)) ⟨T2.heap.size, 0, none⟩ 1 1 [.int .i64 4, .string x.id, .string x.first, .slice A3 x.parts.length c3, .slice A4 x.flows.length c4, .bool x.loop, .string x.called, .slice A7 x.maps.length c7, .slice A8 x.items.length c8, .slice A9 x.seqs.length c9] rfl rfl (World.news_of_block (cs := #[.int .i64 4, .string x.id, .string x.first, .slice A3 x.parts.length c3, .slice A4 x.flows.length c4, .bool x.loop, .string x.called, .slice A7 x.maps.length c7, .slice A8 x.items.length c8, .slice A9 x.seqs.length c9]) (t := 33) (fr := (0, 0)) (heap_alloc_new T2 _)) (by simp [Value.oneCell']) (by omega) (by unfold maxLen; omega) (by omega) (by have := HW2.out.bel.size; simp; omega) (T2.heap.size + 1) (by simp) ?_)
            intro gA capA w5 hown hgrow _ _
            have hq : RdPL (fun b => b < N) (T2.alloc (.cells #[.int .i64 4, .string x.id, .string x.first, .slice A3 x.parts.length c3, .slice A4 x.flows.length c4, .bool x.loop, .string x.called, .slice A7 x.maps.length c7, .slice A8 x.items.length c8, .slice A9 x.seqs.length c9] 33)) ([withK x (nodeK true x.kind)].flatMap itemC) [.int .i64 4, .string x.id, .string x.first, .slice A3 x.parts.length c3, .slice A4 x.flows.length c4, .bool x.loop, .string x.called, .slice A7 x.maps.length c7, .slice A8 x.items.length c8, .slice A9 x.seqs.length c9] := by
              rw [HK.out, List.flatMap_cons, List.flatMap_nil, List.append_nil]
              have hb := HW2.out.bel.trans ((Below.refl T2.heap.size T2).alloc (Nat.le_refl _) (.cells #[.int .i64 4, .string x.id, .string x.first, .slice A3 x.parts.length c3, .slice A4 x.flows.length c4, .bool x.loop, .string x.called, .slice A7 x.maps.length c7, .slice A8 x.items.length c8, .slice A9 x.seqs.length c9] 33) |>.mono HW2.out.bel.size)
              obtain ⟨q3, q4, q7, q8, q9⟩ := HQ.out
              exact rdq_item.2 ⟨_, _, _, _, _, rfl, RdP.below q3 hb, RdP.below q4 hb, RdP.below q7 hb, RdP.below q8 hb, RdP.below q9 hb⟩
            have hW5 := (HW2.out.below ((Below.refl T2.heap.size T2).alloc (Nat.le_refl _) (.cells #[.int .i64 4, .string x.id, .string x.first, .slice A3 x.parts.length c3, .slice A4 x.flows.length c4, .bool x.loop, .string x.called, .slice A7 x.maps.length c7, .slice A8 x.items.length c8, .slice A9 x.seqs.length c9] 33))).push hN hq hown hgrow
            have HW5 := Lib.hid hW5
            clear hW5 hown hgrow hq
            go_wp2_with fail
            go_roundw
            case rel => exact ⟨k + 1, n + 1, p ++ [withK x (nodeK true x.kind)], xs ++ [.int .i64 4, .string x.id, .string x.first, .slice A3 x.parts.length c3, .slice A4 x.flows.length c4, .bool x.loop, .string x.called, .slice A7 x.maps.length c7, .slice A8 x.items.length c8, .slice A9 x.seqs.length c9], some ⟨gA, 0, none⟩, capA, by omega, by go_num, rfl, Lib.hid ⟨HTK2.out.symm, by rw [List.length_append, hP.out.2]; rfl⟩, HW5⟩
            case measure => simp [intOf]; omega
          · have hk1 : (x.kind == 1) = false := by simp [h1]
            by_cases h2 : x.kind = 2
            · have hk2 : (x.kind == 2) = true := by simp [h2]
              have hK : nodeK true x.kind = 4 := by unfold nodeK; rw [if_pos ⟨rfl, .inr h2⟩]
              have HK := Lib.hid hK
              clear hK h1 h2
              obtain ⟨T2, hT2⟩ : ∃ T, T = T1.setCell ⟨gx, 0, none⟩ (.int .i64 4) := ⟨_, rfl⟩
              have hx2 : Blk T2 gx 33 #[.int .i64 4, .string x.id, .string x.first, .slice A3 x.parts.length c3, .slice A4 x.flows.length c4, .bool x.loop, .string x.called, .slice A7 x.maps.length c7, .slice A8 x.items.length c8, .slice A9 x.seqs.length c9] := by rw [hT2]; exact HBX.out.set_ 0 _
              have hW2 : LevW w N p n xs (.slice A n c) T2 := by
                have h := HW1.out
                rw [hT2]
                have hne : (Value.slice A n c).ownBlock ≠ some gx := fun e => by have := (hW.out.own.lt gx e).2; have := HGX.out; omega
                refine ⟨h.bel.setCell (p := ⟨gx, 0, none⟩) hgxw _, ownsRow_setCell_other (a := ⟨gx, 0, none⟩) h.own hne _, ?_⟩
                exact RdPL.keep (fun b hb hl => ⟨Below.heap_setCell T1 ⟨gx, 0, none⟩ _ b (fun e => by have e2 : b = gx := e; omega), hb⟩) _ _ h.rd
              have HW2 := Lib.hid hW2
              have HT2 := Lib.hid hT2.symm
              have HX2 := Lib.hid hx2
              clear hT2 hx2 hW2
              go_upto_region 10 with fail
              rw [HT2.out]
              clear HT2
              clear x0 x1 x2 x3 x4 x5 x6 x7 x8 x9 fx0
              have y0 : T2.cell? ⟨gx, 0, none⟩ = some (.int .i64 4) := HX2.out.cell 0
              have y1 : T2.cell? ⟨gx, 1, none⟩ = some (.string x.id) := HX2.out.cell 1
              have y2 : T2.cell? ⟨gx, 2, none⟩ = some (.string x.first) := HX2.out.cell 2
              have y3 : T2.cell? ⟨gx, 3, none⟩ = some (.slice A3 x.parts.length c3) := HX2.out.cell 3
              have y4 : T2.cell? ⟨gx, 4, none⟩ = some (.slice A4 x.flows.length c4) := HX2.out.cell 4
              have y5 : T2.cell? ⟨gx, 5, none⟩ = some (.bool x.loop) := HX2.out.cell 5
              have y6 : T2.cell? ⟨gx, 6, none⟩ = some (.string x.called) := HX2.out.cell 6
              have y7 : T2.cell? ⟨gx, 7, none⟩ = some (.slice A7 x.maps.length c7) := HX2.out.cell 7
              have y8 : T2.cell? ⟨gx, 8, none⟩ = some (.slice A8 x.items.length c8) := HX2.out.cell 8
              have y9 : T2.cell? ⟨gx, 9, none⟩ = some (.slice A9 x.seqs.length c9) := HX2.out.cell 9
              go_wp2_with (at_builtin; refine wpList_append_lies _ rfl (.tmp 39) (.tmp 41) _ rfl w.heap.size 33 i0 _ 10 184 Try.underlying25 hi0 hz0 hz1 hz2 rfl (by omega) (.slice A n c) n xs rfl (own_below HW2.out.own ((Below.refl _ _).alloc (Nat.le_refl _) _)) ⟨T2.heap.size, 0, none⟩ 1 1 [.int .i64 4, .string x.id, .string x.first, .slice A3 x.parts.length c3, .slice A4 x.flows.length c4, .bool x.loop, .string x.called, .slice A7 x.maps.length c7, .slice A8 x.items.length c8, .slice A9 x.seqs.length c9] rfl rfl (World.news_of_block (cs := #[.int .i64 4, .string x.id, .string x.first, .slice A3 x.parts.length c3, .slice A4 x.flows.length c4, .bool x.loop, .string x.called, .slice A7 x.maps.length c7, .slice A8 x.items.length c8, .slice A9 x.seqs.length c9]) (t := 33) (fr := (0, 0)) (heap_alloc_new T2 _)) (by simp [Value.oneCell']) (by omega) (by unfold maxLen; omega) (by omega) (by have := HW2.out.bel.size; simp; omega) (T2.heap.size + 1) (by simp) ?_)
              intro gA capA w5 hown hgrow _ _
              have hq : RdPL (fun b => b < N) (T2.alloc (.cells #[.int .i64 4, .string x.id, .string x.first, .slice A3 x.parts.length c3, .slice A4 x.flows.length c4, .bool x.loop, .string x.called, .slice A7 x.maps.length c7, .slice A8 x.items.length c8, .slice A9 x.seqs.length c9] 33)) ([withK x (nodeK true x.kind)].flatMap itemC) [.int .i64 4, .string x.id, .string x.first, .slice A3 x.parts.length c3, .slice A4 x.flows.length c4, .bool x.loop, .string x.called, .slice A7 x.maps.length c7, .slice A8 x.items.length c8, .slice A9 x.seqs.length c9] := by
                rw [HK.out, List.flatMap_cons, List.flatMap_nil, List.append_nil]
                have hb := HW2.out.bel.trans ((Below.refl T2.heap.size T2).alloc (Nat.le_refl _) (.cells #[.int .i64 4, .string x.id, .string x.first, .slice A3 x.parts.length c3, .slice A4 x.flows.length c4, .bool x.loop, .string x.called, .slice A7 x.maps.length c7, .slice A8 x.items.length c8, .slice A9 x.seqs.length c9] 33) |>.mono HW2.out.bel.size)
                obtain ⟨q3, q4, q7, q8, q9⟩ := HQ.out
                exact rdq_item.2 ⟨_, _, _, _, _, rfl, RdP.below q3 hb, RdP.below q4 hb, RdP.below q7 hb, RdP.below q8 hb, RdP.below q9 hb⟩
              have hW5 := (HW2.out.below ((Below.refl T2.heap.size T2).alloc (Nat.le_refl _) (.cells #[.int .i64 4, .string x.id, .string x.first, .slice A3 x.parts.length c3, .slice A4 x.flows.length c4, .bool x.loop, .string x.called, .slice A7 x.maps.length c7, .slice A8 x.items.length c8, .slice A9 x.seqs.length c9] 33))).push hN hq hown hgrow
              have HW5 := Lib.hid hW5
              clear hW5 hown hgrow hq
              go_wp2_with fail
              go_roundw
              case rel => exact ⟨k + 1, n + 1, p ++ [withK x (nodeK true x.kind)], xs ++ [.int .i64 4, .string x.id, .string x.first, .slice A3 x.parts.length c3, .slice A4 x.flows.length c4, .bool x.loop, .string x.called, .slice A7 x.maps.length c7, .slice A8 x.items.length c8, .slice A9 x.seqs.length c9], some ⟨gA, 0, none⟩, capA, by omega, by go_num, rfl, Lib.hid ⟨HTK2.out.symm, by rw [List.length_append, hP.out.2]; rfl⟩, HW5⟩
              case measure => simp [intOf]; omega
            · have hk2 : (x.kind == 2) = false := by simp [h2]
              have hK : nodeK true x.kind = x.kind := by unfold nodeK; rw [if_neg (by simp [h1, h2])]
              have HK := Lib.hid hK
              clear hK h1 h2
              obtain ⟨T2, hT2⟩ : ∃ T, T = T1 := ⟨_, rfl⟩
              have hx2 : Blk T2 gx 33 #[.int .i64 x.kind, .string x.id, .string x.first, .slice A3 x.parts.length c3, .slice A4 x.flows.length c4, .bool x.loop, .string x.called, .slice A7 x.maps.length c7, .slice A8 x.items.length c8, .slice A9 x.seqs.length c9] := by rw [hT2]; exact HBX.out
              have HW2 : Hid (LevW w N p n xs (.slice A n c) T2) := by rw [hT2]; exact HW1
              have HT2 := Lib.hid hT2.symm
              have HX2 := Lib.hid hx2
              clear hT2 hx2
              go_upto_region 10 with fail
              rw [HT2.out]
              clear HT2
              clear x0 x1 x2 x3 x4 x5 x6 x7 x8 x9 fx0
              have y0 : T2.cell? ⟨gx, 0, none⟩ = some (.int .i64 x.kind) := HX2.out.cell 0
              have y1 : T2.cell? ⟨gx, 1, none⟩ = some (.string x.id) := HX2.out.cell 1
              have y2 : T2.cell? ⟨gx, 2, none⟩ = some (.string x.first) := HX2.out.cell 2
              have y3 : T2.cell? ⟨gx, 3, none⟩ = some (.slice A3 x.parts.length c3) := HX2.out.cell 3
              have y4 : T2.cell? ⟨gx, 4, none⟩ = some (.slice A4 x.flows.length c4) := HX2.out.cell 4
              have y5 : T2.cell? ⟨gx, 5, none⟩ = some (.bool x.loop) := HX2.out.cell 5
              have y6 : T2.cell? ⟨gx, 6, none⟩ = some (.string x.called) := HX2.out.cell 6
              have y7 : T2.cell? ⟨gx, 7, none⟩ = some (.slice A7 x.maps.length c7) := HX2.out.cell 7
              have y8 : T2.cell? ⟨gx, 8, none⟩ = some (.slice A8 x.items.length c8) := HX2.out.cell 8
              have y9 : T2.cell? ⟨gx, 9, none⟩ = some (.slice A9 x.seqs.length c9) := HX2.out.cell 9
              go_wp2_with (at_builtin; refine wpList_append_lies _ rfl (.tmp 39) (.tmp 41) _ rfl w.heap.size 33 i0 _ 10 184 Try.underlying25 hi0 hz0 hz1 hz2 rfl (by omega) (.slice A n c) n xs rfl (own_below HW2.out.own ((Below.refl _ _).alloc (Nat.le_refl _) _)) ⟨T2.heap.size, 0, none⟩ 1 1 [.int .i64 x.kind, .string x.id, .string x.first, .slice A3 x.parts.length c3, .slice A4 x.flows.length c4, .bool x.loop, .string x.called, .slice A7 x.maps.length c7, .slice A8 x.items.length c8, .slice A9 x.seqs.length c9] rfl rfl (World.news_of_block (cs := #[.int .i64 x.kind, .string x.id, .string x.first, .slice A3 x.parts.length c3, .slice A4 x.flows.length c4, .bool x.loop, .string x.called, .slice A7 x.maps.length c7, .slice A8 x.items.length c8, .slice A9 x.seqs.length c9]) (t := 33) (fr := (0, 0)) (heap_alloc_new T2 _)) (by simp [Value.oneCell']) (by omega) (by unfold maxLen; omega) (by omega) (by have := HW2.out.bel.size; simp; omega) (T2.heap.size + 1) (by simp) ?_)
              intro gA capA w5 hown hgrow _ _
              have hq : RdPL (fun b => b < N) (T2.alloc (.cells #[.int .i64 x.kind, .string x.id, .string x.first, .slice A3 x.parts.length c3, .slice A4 x.flows.length c4, .bool x.loop, .string x.called, .slice A7 x.maps.length c7, .slice A8 x.items.length c8, .slice A9 x.seqs.length c9] 33)) ([withK x (nodeK true x.kind)].flatMap itemC) [.int .i64 x.kind, .string x.id, .string x.first, .slice A3 x.parts.length c3, .slice A4 x.flows.length c4, .bool x.loop, .string x.called, .slice A7 x.maps.length c7, .slice A8 x.items.length c8, .slice A9 x.seqs.length c9] := by
                rw [HK.out, List.flatMap_cons, List.flatMap_nil, List.append_nil]
                have hb := HW2.out.bel.trans ((Below.refl T2.heap.size T2).alloc (Nat.le_refl _) (.cells #[.int .i64 x.kind, .string x.id, .string x.first, .slice A3 x.parts.length c3, .slice A4 x.flows.length c4, .bool x.loop, .string x.called, .slice A7 x.maps.length c7, .slice A8 x.items.length c8, .slice A9 x.seqs.length c9] 33) |>.mono HW2.out.bel.size)
                obtain ⟨q3, q4, q7, q8, q9⟩ := HQ.out
                exact rdq_item.2 ⟨_, _, _, _, _, rfl, RdP.below q3 hb, RdP.below q4 hb, RdP.below q7 hb, RdP.below q8 hb, RdP.below q9 hb⟩
              have hW5 := (HW2.out.below ((Below.refl T2.heap.size T2).alloc (Nat.le_refl _) (.cells #[.int .i64 x.kind, .string x.id, .string x.first, .slice A3 x.parts.length c3, .slice A4 x.flows.length c4, .bool x.loop, .string x.called, .slice A7 x.maps.length c7, .slice A8 x.items.length c8, .slice A9 x.seqs.length c9] 33))).push hN hq hown hgrow
              have HW5 := Lib.hid hW5
              clear hW5 hown hgrow hq
              go_wp2_with fail
              go_roundw
              case rel => exact ⟨k + 1, n + 1, p ++ [withK x (nodeK true x.kind)], xs ++ [.int .i64 x.kind, .string x.id, .string x.first, .slice A3 x.parts.length c3, .slice A4 x.flows.length c4, .bool x.loop, .string x.called, .slice A7 x.maps.length c7, .slice A8 x.items.length c8, .slice A9 x.seqs.length c9], some ⟨gA, 0, none⟩, capA, by omega, by go_num, rfl, Lib.hid ⟨HTK2.out.symm, by rw [List.length_append, hP.out.2]; rfl⟩, HW5⟩
              case measure => simp [intOf]; omega
    · have hkl : k = l.length := by omega
      subst hkl
      have hp := hP.out.1
      rw [List.take_length, ← HL.out] at hp
      have hn := hP.out.2
      subst hp
      subst hn
      have hW2 := hW
      clear hP hW
      go_wp2_with fail
      go_ret
      exact ⟨A, c, xs, rfl, hW2.out⟩
end Go.Proofs.Yteoioboiniealaa
namespace Go.Proofs.Yteoioboiniealaa
open Go.RowKit
attribute [local go_sem ↓] Go.wp_at_zero Go.wp_at_succ

theorem Try.infoPairL : (Try.prog.info? 86).map (fun i => (i.zero, i.size, i.bytes)) = some (some (.agg #[.string ⟨#[]⟩, .string ⟨#[]⟩]), 2, 32) := by kernel_rfl
def edgQ (l : List ItemD) (q : SeqD) : ByteArray × ByteArray := (sideF q.src false l, sideF q.dst true l)
mutual
def edgI : ItemD → List (ByteArray × ByteArray)
  | ⟨_, _, _, _, _, _, _, _, items, seqs⟩ => edgIs items ++ seqs.map (edgQ items)
def edgIs : List ItemD → List (ByteArray × ByteArray)
  | [] => []
  | x :: l => edgI x ++ edgIs l
end
/-- What follows what, level by level. -/
def edgL (l : List ItemD) (s : List SeqD) : List (ByteArray × ByteArray) := edgIs l ++ s.map (edgQ l)
theorem edgI_eq (x : ItemD) : edgI x = edgL x.items x.seqs := by
  obtain ⟨kind, id, first, parts, flows, loop, called, maps, items, seqs⟩ := x
  rw [edgI]
  rfl
theorem edgIs_append : ∀ a b : List ItemD, edgIs (a ++ b) = edgIs a ++ edgIs b
  | [], b => by rw [edgIs]; rfl
  | x :: a, b => by rw [List.cons_append, edgIs, edgIs, edgIs_append a b, List.append_assoc]
theorem edgIs_take {l : List ItemD} {k : Nat} (hk : k < l.length) : edgIs (l.take (k + 1)) = edgIs (l.take k) ++ edgL l[k].items l[k].seqs := by
  rw [List.take_succ_eq_append_getElem hk, edgIs_append, edgIs, edgIs, List.append_nil, edgI_eq]
theorem edgIs_take_le (l : List ItemD) (k : Nat) : (edgIs (l.take k)).length ≤ (edgIs l).length := by
  conv => rhs; rw [← List.take_append_drop k l, edgIs_append]
  rw [List.length_append]
  exact Nat.le_add_right _ _
def pairV (x : ByteArray × ByteArray) : List Value := [.string x.1, .string x.2]
theorem pairs_one (l : List (ByteArray × ByteArray)) : ∀ u ∈ l.flatMap pairV, u.oneCell' = true := fun u hu => by
  obtain ⟨m, _, hm⟩ := List.mem_flatMap.1 hu
  unfold pairV at hm
  simp only [List.mem_cons, List.not_mem_nil, or_false] at hm
  rcases hm with rfl | rfl <;> rfl
/-- A row of pairs of the call's own. -/
structure EdW (w : World) (p : List (ByteArray × ByteArray)) (n : Nat) (v : Value) (W : World) : Prop where
  bel : Below w.heap.size w W
  own : W.ownsRow w.heap.size 86 2 v n (p.flatMap pairV)
theorem EdW.below {w W W1 : World} {p : List (ByteArray × ByteArray)} {n : Nat} {v : Value} (h : EdW w p n v W) (k : Below W.heap.size W W1) : EdW w p n v W1 := ⟨h.bel.trans (k.mono h.bel.size), own_below h.own k⟩
theorem EdW.push {w W W1 : World} {p q : List (ByteArray × ByteArray)} {n m : Nat} {v v1 : Value} (h : EdW w p n v W) (hown : W1.ownsRow w.heap.size 86 2 v1 m (p.flatMap pairV ++ q.flatMap pairV)) (hg : W.grownBy W1 v.ownBlock) : EdW w (p ++ q) m v1 W1 :=
  ⟨h.bel.grown hg h.bel.size (fun k hk => (h.own.lt k hk).1), by rw [List.flatMap_append]; exact hown⟩
def EdE (w : World) (p : List (ByteArray × ByteArray)) (e : Ending) (w' : World) : Prop := ∃ A c, e = .returned (.slice A p.length c) ∧ EdW w p p.length (.slice A p.length c) w'
def EdOk (l : List ItemD) (s : List SeqD) : Prop := ∀ (w : World) (v vs : Value), Rd w (itemsD l) v → Rd w (seqsD s) vs → Calls Try.prog 33 #[v, vs] w (EdE w (edgL l s))
set_option maxRecDepth 100000 in
set_option maxHeartbeats 8000000 in
theorem edges_step (l : List ItemD) (s : List SeqD) (hll : l.length ≤ 100000) (hsl : s.length ≤ 100000) (hsz : (edgIs l).length ≤ 100000) (hch : ∀ y ∈ l, EdOk y.items y.seqs) : EdOk l s := by
  intro w v vs hv hvs
  obtain ⟨A0, k0, rfl, hlc, hcm, hat⟩ := rd_at itemC_len hv
  obtain ⟨A1, k1, rfl, hlc1, hcm1, hat1⟩ := rd_at seqC_len hvs
  obtain ⟨j0, hj0, hy0, hy1, hy2⟩ := info_parts Try.infoPairL
  have HV := Lib.hid hv
  have HAT := Lib.hid hat
  have HAT1 := Lib.hid hat1
  have HCH := Lib.hid hch
  clear hv hvs hat hat1 hch hcm hcm1
  obtain ⟨P, hP⟩ : ∃ P, P = edgIs l := ⟨_, rfl⟩
  rw [← hP] at hsz
  have HP := Lib.hid hP
  clear hP
  go_enter Try.func33, Try.ntmps33
  go_wp2_with fail
  go_loopw [5, 6] (fun ov iv wr => ∃ (k n : Nat) (p : List (ByteArray × ByteArray)) (A : Option Addr) (c : Nat), k ≤ l.length ∧ iv = .int .i64 k ∧ ov = .slice A n c ∧ Hid (p = edgIs (l.take k) ∧ p.length = n) ∧ Hid (EdW w p n (.slice A n c) wr)) (fun _ iv _ => l.length - (intOf iv).toNat)
  case atStart => exact ⟨0, 0, [], _, _, Nat.zero_le _, rfl, rfl, Lib.hid ⟨by rw [List.take_zero, edgIs], rfl⟩, Lib.hid ⟨(Below.refl _ _).alloc (Nat.le_refl _) _, World.ownsRow_lit (base := w.heap.size) w #[] 0 (Nat.le_refl _) (by decide) rfl⟩⟩
  case round =>
    obtain ⟨k, n, p, A, c, hk, rfl, rfl, hPP, hW⟩ := hrel
    obtain ⟨V, rfl⟩ : ∃ V, V = wr := ⟨_, rfl⟩
    by_cases hlt : k < l.length
    · obtain ⟨b, vs, rfl, hbl, _, hvs, hcell⟩ := HAT.out k hlt
      obtain ⟨x, hx⟩ : ∃ x, x = l[k] := ⟨_, rfl⟩
      have htk := edgIs_take hlt
      have hpl := edgIs_take_le l (k + 1)
      rw [htk, ← HP.out] at hpl
      rw [← hx] at hvs htk hpl
      rw [← hPP.out.1] at htk hpl
      rw [List.length_append, hPP.out.2] at hpl
      obtain ⟨v3, v4, v7, v8, v9, rfl, h3, h4, h7, h8, h9⟩ := rd_itemC.1 hvs
      obtain ⟨A8, c8, _, rfl, _⟩ := rd_sl.1 h8
      obtain ⟨A9, c9, _, rfl, _⟩ := rd_sl.1 h9
      have hbV := hW.out.bel
      have hwV := hbV.size
      have e8 : V.cell? ⟨b, k * 10 + 8, none⟩ = some (.slice A8 x.items.length c8) := (hbV.cell (p := ⟨b, k * 10 + 8, none⟩) hbl).trans (hcell 8 (by omega))
      have e9 : V.cell? ⟨b, k * 10 + 9, none⟩ = some (.slice A9 x.seqs.length c9) := (hbV.cell (p := ⟨b, k * 10 + 9, none⟩) hbl).trans (hcell 9 (by omega))
      have hcall := fun U (hU : Below V.heap.size V U) => HCH.out x (by rw [hx]; exact List.getElem_mem hlt) U _ _ (Rd.below (hbV.trans (hU.mono hwV)) _ _ h8) (Rd.below (hbV.trans (hU.mono hwV)) _ _ h9)
      obtain ⟨q, hq⟩ : ∃ q, q = edgL x.items x.seqs := ⟨_, rfl⟩
      rw [← hq] at htk hpl hcall
      obtain ⟨m, hm⟩ : ∃ m, m = q.length := ⟨_, rfl⟩
      rw [← hm] at hpl
      unfold EdE at hcall
      rw [← hm] at hcall
      have hbV8 : b < V.heap.size := by omega
      have HCALL := Lib.hid hcall
      have HM := Lib.hid hm
      have HTK := Lib.hid htk
      have hkI : (k : Int) < (l.length : Int) := by omega
      have hn100 : n ≤ 100000 := by omega
      clear hvs hcell h3 h4 h7 h8 h9 hx htk hcall hq hm hbV
      go_upto_region 5 with fail
      have HY_a := Lib.hid (fun (U : World) (hSw : (fun U => Below V.heap.size V U) U) => And.intro (show U.cell? ⟨b, k * 10 + 8, none⟩ = some (.slice A8 x.items.length c8) from (hSw.cell (p := ⟨b, k * 10 + 8, none⟩) hbV8).trans e8) ((show U.cell? ⟨b, k * 10 + 9, none⟩ = some (.slice A9 x.seqs.length c9) from (hSw.cell (p := ⟨b, k * 10 + 9, none⟩) hbV8).trans e9)))
      refine wp_region_HT 12 (fun U => Below V.heap.size V U) (by kernel_rfl) (by decide) ((Below.refl _ _).drew) (fun hHeld => ?_)
      refine ht_take 0 (v := ?va_1) rfl (by kernel_rfl) (fun _ _ _ h => h) (Or.inl ⟨by rfl, ?ha_1⟩) hHeld ?ra_1
      case ha_1 => ((intro U hSw; obtain ⟨z8, z9⟩ := HY_a.out U hSw; go_simp); (try (with_reducible rfl)))
      try simp only [Act.put, List.setIfInBounds_toArray, List.set_cons_zero, List.set_cons_succ]
      refine ht_take 1 (v := ?va_2) rfl (by kernel_rfl) (fun _ _ _ h => h) (Or.inl ⟨by rfl, ?ha_2⟩) hHeld ?ra_2
      case ha_2 => ((intro U hSw; obtain ⟨z8, z9⟩ := HY_a.out U hSw; go_simp); (try (with_reducible rfl)))
      try simp only [Act.put, List.setIfInBounds_toArray, List.set_cons_zero, List.set_cons_succ]
      refine ht_take 2 (v := ?va_3) rfl (by kernel_rfl) (fun _ _ _ h => h) (Or.inl ⟨by rfl, ?ha_3⟩) hHeld ?ra_3
      case ha_3 => ((intro U hSw; obtain ⟨z8, z9⟩ := HY_a.out U hSw; go_simp); (try (with_reducible rfl)))
      try simp only [Act.put, List.setIfInBounds_toArray, List.set_cons_zero, List.set_cons_succ]
      refine ht_take 3 (v := ?va_4) rfl (by kernel_rfl) (fun _ _ _ h => h) (Or.inl ⟨by rfl, ?ha_4⟩) hHeld ?ra_4
      case ha_4 => ((intro U hSw; obtain ⟨z8, z9⟩ := HY_a.out U hSw; go_simp); (try (with_reducible rfl)))
      try simp only [Act.put, List.setIfInBounds_toArray, List.set_cons_zero, List.set_cons_succ]
      refine ht_take 4 (v := ?va_5) rfl (by kernel_rfl) (fun _ _ _ h => h) (Or.inl ⟨by rfl, ?ha_5⟩) hHeld ?ra_5
      case ha_5 => ((intro U hSw; obtain ⟨z8, z9⟩ := HY_a.out U hSw; go_simp); (try (with_reducible rfl)))
      try simp only [Act.put, List.setIfInBounds_toArray, List.set_cons_zero, List.set_cons_succ]
      refine ht_take 5 (v := ?va_6) rfl (by kernel_rfl) (fun _ _ _ h => h) (Or.inl ⟨by rfl, ?ha_6⟩) hHeld ?ra_6
      case ha_6 => ((intro U hSw; obtain ⟨z8, z9⟩ := HY_a.out U hSw; go_simp); (try (with_reducible rfl)))
      try simp only [Act.put, List.setIfInBounds_toArray, List.set_cons_zero, List.set_cons_succ]
      refine ht_take 6 (v := ?va_7) rfl (by kernel_rfl) (fun _ _ _ h => h) (Or.inl ⟨by rfl, ?ha_7⟩) hHeld ?ra_7
      case ha_7 => ((intro U hSw; obtain ⟨z8, z9⟩ := HY_a.out U hSw; go_simp); (try (with_reducible rfl)))
      try simp only [Act.put, List.setIfInBounds_toArray, List.set_cons_zero, List.set_cons_succ]
      refine ht_take 7 (v := ?va_8) rfl (by kernel_rfl) (fun _ _ _ h => h) (Or.inl ⟨by rfl, ?ha_8⟩) hHeld ?ra_8
      case ha_8 => ((intro U hSw; obtain ⟨z8, z9⟩ := HY_a.out U hSw; go_simp); (try (with_reducible rfl)))
      try simp only [Act.put, List.setIfInBounds_toArray, List.set_cons_zero, List.set_cons_succ]
      refine ht_take 8 (v := ?va_9) rfl (by kernel_rfl) (fun _ _ _ h => h) (Or.inl ⟨by rfl, ?ha_9⟩) hHeld ?ra_9
      case ha_9 => ((intro U hSw; obtain ⟨z8, z9⟩ := HY_a.out U hSw; go_simp); (try (with_reducible rfl)))
      try simp only [Act.put, List.setIfInBounds_toArray, List.set_cons_zero, List.set_cons_succ]
      refine ht_take 9 (v := ?va_10) rfl (by kernel_rfl) (fun _ _ _ h => h) (Or.inl ⟨by rfl, ?ha_10⟩) hHeld ?ra_10
      case ha_10 => ((intro U hSw; obtain ⟨z8, z9⟩ := HY_a.out U hSw; go_simp); (try (with_reducible rfl)))
      try simp only [Act.put, List.setIfInBounds_toArray, List.set_cons_zero, List.set_cons_succ]
      refine ht_take 10 (v := ?va_11) rfl (by kernel_rfl) (fun _ _ _ h => h) (Or.inl ⟨by rfl, ?ha_11⟩) hHeld ?ra_11
      case ha_11 => ((intro U hSw; obtain ⟨z8, z9⟩ := HY_a.out U hSw; go_simp); (try (with_reducible rfl)))
      try simp only [Act.put, List.setIfInBounds_toArray, List.set_cons_zero, List.set_cons_succ]
      refine ht_one 11 rfl (by kernel_rfl) (fun K hK => ?_)
      go_simp
      refine (HCALL.out _ hHeld).mono ?_
      rintro e w2 ⟨A2, c2, rfl, hE2⟩
      have HE2 := Lib.hid hE2
      go_wp2_with fail
      refine hK.out _ _ (hHeld.trans (hE2.bel.mono hHeld.size)) (fun hHeld => ?_)
      clear hK K
      try simp only [Act.put, List.setIfInBounds_toArray, List.set_cons_zero, List.set_cons_succ]
      refine ht_done (by kernel_rfl) rfl ?_
      have HW2 := Lib.hid (hW.out.below hHeld)
      have hsE := hHeld.size
      clear hHeld
      go_wp2_with (at_builtin; refine wpList_append_any _ rfl (.tmp 15) (.tmp 26) _ rfl w.heap.size 86 j0 _ 2 32 Try.underlying82 hj0 hy0 hy1 hy2 rfl (by omega) (.slice A n c) n (p.flatMap pairV) rfl HW2.out.own w2.heap.size A2 m c2 (q.flatMap pairV) rfl (Reads.of_own HE2.out.own) (pairs_one _) (by unfold maxLen; omega) (by omega) (by omega) ?_)
      intro v5 w5 hown hgrow _
      have hW5 := HW2.out.push hown hgrow
      obtain ⟨A5, c5, rfl, _, _⟩ := own_slice hown
      have HW5 := Lib.hid hW5
      clear hW5 hown hgrow
      go_wp2_with fail
      go_roundw
      case rel => exact ⟨k + 1, n + m, p ++ q, A5, c5, by omega, by go_num, rfl, Lib.hid ⟨HTK.out.symm, by rw [List.length_append, hPP.out.2, HM.out]⟩, HW5⟩
      case measure => simp [intOf]; omega
    · have hkl : k = l.length := by omega
      subst hkl
      have hp := hPP.out.1
      rw [List.take_length, ← HP.out] at hp
      have hn := hPP.out.2
      have HW2 := hW
      have HPn := Lib.hid hn
      have HPp := Lib.hid hp
      have hn2 : n ≤ 100000 := by rw [← hn, hp]; exact hsz
      clear hPP hW hp hn
      go_upto_region 6 with fail
      go_wp2_with fail
      go_loopw [5, 7] (fun ov iv wr => ∃ (k m : Nat) (q : List (ByteArray × ByteArray)) (A : Option Addr) (c : Nat), k ≤ s.length ∧ iv = .int .i64 k ∧ ov = .slice A m c ∧ Hid (q = P ++ (s.take k).map (edgQ l) ∧ q.length = m ∧ m = n + k) ∧ Hid (EdW w q m (.slice A m c) wr)) (fun _ iv _ => s.length - (intOf iv).toNat)
      case atStart => exact ⟨0, n, p, A, c, Nat.zero_le _, rfl, rfl, Lib.hid ⟨by rw [List.take_zero, List.map_nil, List.append_nil]; exact HPp.out, HPn.out, rfl⟩, HW2⟩
      case round =>
        clear HW2 HPn HPp
        obtain ⟨k, m, q, A, c, hk, rfl, rfl, hQQ, hW⟩ := hrel
        obtain ⟨V, rfl⟩ : ∃ V, V = wr := ⟨_, rfl⟩
        by_cases hlt : k < s.length
        · obtain ⟨b, vs, rfl, hbl, _, hvs, hcell⟩ := HAT1.out k hlt
          obtain ⟨x, hx⟩ : ∃ x, x = s[k] := ⟨_, rfl⟩
          rw [← hx] at hvs
          obtain rfl := rd_seqC hvs
          have hbV := hW.out.bel
          have hwV := hbV.size
          have e1 : V.cell? ⟨b, k * 3 + 1, none⟩ = some (.string x.src) := (hbV.cell (p := ⟨b, k * 3 + 1, none⟩) hbl).trans (hcell 1 (by omega))
          have e2 : V.cell? ⟨b, k * 3 + 2, none⟩ = some (.string x.dst) := (hbV.cell (p := ⟨b, k * 3 + 2, none⟩) hbl).trans (hcell 2 (by omega))
          have hc1 := fun U (hU : Below V.heap.size V U) => side_any (w := U) x.src false (Rd.below (hbV.trans (hU.mono hwV)) _ _ HV.out)
          have hc2 := fun U (hU : Below V.heap.size V U) => side_any (w := U) x.dst true (Rd.below (hbV.trans (hU.mono hwV)) _ _ HV.out)
          obtain ⟨t1, ht1⟩ : ∃ t, t = sideF x.src false l := ⟨_, rfl⟩
          obtain ⟨t2, ht2⟩ : ∃ t, t = sideF x.dst true l := ⟨_, rfl⟩
          rw [← ht1] at hc1
          rw [← ht2] at hc2
          have hstep : q ++ [(t1, t2)] = P ++ (s.take (k + 1)).map (edgQ l) := by
            rw [hQQ.out.1, List.take_succ_eq_append_getElem hlt, List.map_append, ← List.append_assoc, List.map_cons, List.map_nil, ← hx, ht1, ht2]; rfl
          have hm2 := hQQ.out.2.2
          have hm1 : m ≤ 200000 := by omega
          have HS1 := Lib.hid hc1
          have HS2 := Lib.hid hc2
          have HST := Lib.hid hstep
          have HM2 := Lib.hid hm2
          have hbV1 : b < V.heap.size := by omega
          have hkI : (k : Int) < (s.length : Int) := by omega
          clear hvs hcell hx hc1 hc2 ht1 ht2 hstep hbV hm2
          go_upto_region 9 with fail
          refine wp_region_HT 17 (fun U => Below V.heap.size V U) (by kernel_rfl) (by decide) ((Below.refl _ _).drew) (fun hHeld => ?_)
          refine ht_take 0 (v := ?vb_1) rfl (by kernel_rfl) (fun _ _ _ h => h) (Or.inl ⟨by rfl, ?hb_1⟩) hHeld ?rb_1
          case hb_1 => ((intro U hSw; have z1 : U.cell? ⟨b, k * 3 + 1, none⟩ = some (.string x.src) := (hSw.cell (p := ⟨b, k * 3 + 1, none⟩) hbV1).trans e1; have z2 : U.cell? ⟨b, k * 3 + 2, none⟩ = some (.string x.dst) := (hSw.cell (p := ⟨b, k * 3 + 2, none⟩) hbV1).trans e2; go_simp); (try (with_reducible rfl)))
          try simp only [Act.put, List.setIfInBounds_toArray, List.set_cons_zero, List.set_cons_succ]
          refine ht_take 1 (v := ?vb_2) rfl (by kernel_rfl) (fun _ _ _ h => h) (Or.inl ⟨by rfl, ?hb_2⟩) hHeld ?rb_2
          case hb_2 => ((intro U hSw; have z1 : U.cell? ⟨b, k * 3 + 1, none⟩ = some (.string x.src) := (hSw.cell (p := ⟨b, k * 3 + 1, none⟩) hbV1).trans e1; have z2 : U.cell? ⟨b, k * 3 + 2, none⟩ = some (.string x.dst) := (hSw.cell (p := ⟨b, k * 3 + 2, none⟩) hbV1).trans e2; go_simp); (try (with_reducible rfl)))
          try simp only [Act.put, List.setIfInBounds_toArray, List.set_cons_zero, List.set_cons_succ]
          refine ht_take 2 (v := ?vb_3) rfl (by kernel_rfl) (fun _ _ _ h => h) (Or.inl ⟨by rfl, ?hb_3⟩) hHeld ?rb_3
          case hb_3 => ((intro U hSw; have z1 : U.cell? ⟨b, k * 3 + 1, none⟩ = some (.string x.src) := (hSw.cell (p := ⟨b, k * 3 + 1, none⟩) hbV1).trans e1; have z2 : U.cell? ⟨b, k * 3 + 2, none⟩ = some (.string x.dst) := (hSw.cell (p := ⟨b, k * 3 + 2, none⟩) hbV1).trans e2; go_simp); (try (with_reducible rfl)))
          try simp only [Act.put, List.setIfInBounds_toArray, List.set_cons_zero, List.set_cons_succ]
          refine ht_take 3 (v := ?vb_4) rfl (by kernel_rfl) (fun _ _ _ h => h) (Or.inl ⟨by rfl, ?hb_4⟩) hHeld ?rb_4
          case hb_4 => ((intro U hSw; have z1 : U.cell? ⟨b, k * 3 + 1, none⟩ = some (.string x.src) := (hSw.cell (p := ⟨b, k * 3 + 1, none⟩) hbV1).trans e1; have z2 : U.cell? ⟨b, k * 3 + 2, none⟩ = some (.string x.dst) := (hSw.cell (p := ⟨b, k * 3 + 2, none⟩) hbV1).trans e2; go_simp); (try (with_reducible rfl)))
          try simp only [Act.put, List.setIfInBounds_toArray, List.set_cons_zero, List.set_cons_succ]
          refine ht_take 4 (v := ?vb_5) rfl (by kernel_rfl) (fun _ _ _ h => h) (Or.inl ⟨by rfl, ?hb_5⟩) hHeld ?rb_5
          case hb_5 => ((intro U hSw; have z1 : U.cell? ⟨b, k * 3 + 1, none⟩ = some (.string x.src) := (hSw.cell (p := ⟨b, k * 3 + 1, none⟩) hbV1).trans e1; have z2 : U.cell? ⟨b, k * 3 + 2, none⟩ = some (.string x.dst) := (hSw.cell (p := ⟨b, k * 3 + 2, none⟩) hbV1).trans e2; go_simp); (try (with_reducible rfl)))
          try simp only [Act.put, List.setIfInBounds_toArray, List.set_cons_zero, List.set_cons_succ]
          refine ht_take 5 (v := ?vb_6) rfl (by kernel_rfl) (fun _ _ _ h => h) (Or.inl ⟨by rfl, ?hb_6⟩) hHeld ?rb_6
          case hb_6 => ((intro U hSw; have z1 : U.cell? ⟨b, k * 3 + 1, none⟩ = some (.string x.src) := (hSw.cell (p := ⟨b, k * 3 + 1, none⟩) hbV1).trans e1; have z2 : U.cell? ⟨b, k * 3 + 2, none⟩ = some (.string x.dst) := (hSw.cell (p := ⟨b, k * 3 + 2, none⟩) hbV1).trans e2; go_simp); (try (with_reducible rfl)))
          try simp only [Act.put, List.setIfInBounds_toArray, List.set_cons_zero, List.set_cons_succ]
          refine ht_take 6 (v := ?vb_7) rfl (by kernel_rfl) (fun _ _ _ h => h) (Or.inl ⟨by rfl, ?hb_7⟩) hHeld ?rb_7
          case hb_7 => ((intro U hSw; have z1 : U.cell? ⟨b, k * 3 + 1, none⟩ = some (.string x.src) := (hSw.cell (p := ⟨b, k * 3 + 1, none⟩) hbV1).trans e1; have z2 : U.cell? ⟨b, k * 3 + 2, none⟩ = some (.string x.dst) := (hSw.cell (p := ⟨b, k * 3 + 2, none⟩) hbV1).trans e2; go_simp); (try (with_reducible rfl)))
          try simp only [Act.put, List.setIfInBounds_toArray, List.set_cons_zero, List.set_cons_succ]
          refine ht_take 8 (v := ?vb_8) rfl (by kernel_rfl) (fun _ _ _ h => h) (Or.inl ⟨by rfl, ?hb_8⟩) hHeld ?rb_8
          case hb_8 => ((intro U hSw; have z1 : U.cell? ⟨b, k * 3 + 1, none⟩ = some (.string x.src) := (hSw.cell (p := ⟨b, k * 3 + 1, none⟩) hbV1).trans e1; have z2 : U.cell? ⟨b, k * 3 + 2, none⟩ = some (.string x.dst) := (hSw.cell (p := ⟨b, k * 3 + 2, none⟩) hbV1).trans e2; go_simp); (try (with_reducible rfl)))
          try simp only [Act.put, List.setIfInBounds_toArray, List.set_cons_zero, List.set_cons_succ]
          refine ht_take 9 (v := ?vb_9) rfl (by kernel_rfl) (fun _ _ _ h => h) (Or.inl ⟨by rfl, ?hb_9⟩) hHeld ?rb_9
          case hb_9 => ((intro U hSw; have z1 : U.cell? ⟨b, k * 3 + 1, none⟩ = some (.string x.src) := (hSw.cell (p := ⟨b, k * 3 + 1, none⟩) hbV1).trans e1; have z2 : U.cell? ⟨b, k * 3 + 2, none⟩ = some (.string x.dst) := (hSw.cell (p := ⟨b, k * 3 + 2, none⟩) hbV1).trans e2; go_simp); (try (with_reducible rfl)))
          try simp only [Act.put, List.setIfInBounds_toArray, List.set_cons_zero, List.set_cons_succ]
          refine ht_take 10 (v := ?vb_10) rfl (by kernel_rfl) (fun _ _ _ h => h) (Or.inl ⟨by rfl, ?hb_10⟩) hHeld ?rb_10
          case hb_10 => ((intro U hSw; have z1 : U.cell? ⟨b, k * 3 + 1, none⟩ = some (.string x.src) := (hSw.cell (p := ⟨b, k * 3 + 1, none⟩) hbV1).trans e1; have z2 : U.cell? ⟨b, k * 3 + 2, none⟩ = some (.string x.dst) := (hSw.cell (p := ⟨b, k * 3 + 2, none⟩) hbV1).trans e2; go_simp); (try (with_reducible rfl)))
          try simp only [Act.put, List.setIfInBounds_toArray, List.set_cons_zero, List.set_cons_succ]
          refine ht_take 11 (v := ?vb_11) rfl (by kernel_rfl) (fun _ _ _ h => h) (Or.inl ⟨by rfl, ?hb_11⟩) hHeld ?rb_11
          case hb_11 => ((intro U hSw; have z1 : U.cell? ⟨b, k * 3 + 1, none⟩ = some (.string x.src) := (hSw.cell (p := ⟨b, k * 3 + 1, none⟩) hbV1).trans e1; have z2 : U.cell? ⟨b, k * 3 + 2, none⟩ = some (.string x.dst) := (hSw.cell (p := ⟨b, k * 3 + 2, none⟩) hbV1).trans e2; go_simp); (try (with_reducible rfl)))
          try simp only [Act.put, List.setIfInBounds_toArray, List.set_cons_zero, List.set_cons_succ]
          refine ht_take 12 (v := ?vb_12) rfl (by kernel_rfl) (fun _ _ _ h => h) (Or.inl ⟨by rfl, ?hb_12⟩) hHeld ?rb_12
          case hb_12 => ((intro U hSw; have z1 : U.cell? ⟨b, k * 3 + 1, none⟩ = some (.string x.src) := (hSw.cell (p := ⟨b, k * 3 + 1, none⟩) hbV1).trans e1; have z2 : U.cell? ⟨b, k * 3 + 2, none⟩ = some (.string x.dst) := (hSw.cell (p := ⟨b, k * 3 + 2, none⟩) hbV1).trans e2; go_simp); (try (with_reducible rfl)))
          try simp only [Act.put, List.setIfInBounds_toArray, List.set_cons_zero, List.set_cons_succ]
          refine ht_take 13 (v := ?vb_13) rfl (by kernel_rfl) (fun _ _ _ h => h) (Or.inl ⟨by rfl, ?hb_13⟩) hHeld ?rb_13
          case hb_13 => ((intro U hSw; have z1 : U.cell? ⟨b, k * 3 + 1, none⟩ = some (.string x.src) := (hSw.cell (p := ⟨b, k * 3 + 1, none⟩) hbV1).trans e1; have z2 : U.cell? ⟨b, k * 3 + 2, none⟩ = some (.string x.dst) := (hSw.cell (p := ⟨b, k * 3 + 2, none⟩) hbV1).trans e2; go_simp); (try (with_reducible rfl)))
          try simp only [Act.put, List.setIfInBounds_toArray, List.set_cons_zero, List.set_cons_succ]
          refine ht_one 7 rfl (by kernel_rfl) (fun K hK => ?_)
          go_simp
          refine (HS1.out _ hHeld).mono ?_
          rintro e w2 ⟨rfl, rfl⟩
          go_wp2_with fail
          refine hK.out _ _ (hHeld) (fun hHeld => ?_)
          clear hK K
          try simp only [Act.put, List.setIfInBounds_toArray, List.set_cons_zero, List.set_cons_succ]
          refine ht_one 14 rfl (by kernel_rfl) (fun K hK => ?_)
          go_simp
          refine (HS2.out _ hHeld).mono ?_
          rintro e w2 ⟨rfl, rfl⟩
          go_wp2_with fail
          refine hK.out _ _ (hHeld) (fun hHeld => ?_)
          clear hK K
          try simp only [Act.put, List.setIfInBounds_toArray, List.set_cons_zero, List.set_cons_succ]
          refine ht_take 15 (v := ?vb_14) rfl (by kernel_rfl) (fun _ _ _ h => h) (Or.inl ⟨by rfl, ?hb_14⟩) hHeld ?rb_14
          case hb_14 => ((intro U hSw; have z1 : U.cell? ⟨b, k * 3 + 1, none⟩ = some (.string x.src) := (hSw.cell (p := ⟨b, k * 3 + 1, none⟩) hbV1).trans e1; have z2 : U.cell? ⟨b, k * 3 + 2, none⟩ = some (.string x.dst) := (hSw.cell (p := ⟨b, k * 3 + 2, none⟩) hbV1).trans e2; go_simp); (try (with_reducible rfl)))
          try simp only [Act.put, List.setIfInBounds_toArray, List.set_cons_zero, List.set_cons_succ]
          refine ht_one 16 rfl (by kernel_rfl) (fun K hK => ?_)
          go_simp
          refine hK.out _ _ (hHeld.alloc hHeld.size _) (fun hHeld => ?_)
          clear hK K
          try simp only [Act.put, List.setIfInBounds_toArray, List.set_cons_zero, List.set_cons_succ]
          refine ht_done (by kernel_rfl) rfl ?_
          clear hHeld
          have HW2 := Lib.hid (hW.out.below ((Below.refl V.heap.size V).drew.alloc (Nat.le_refl _) (.cells #[.string t1, .string t2] 86)))
          go_wp2_with (at_builtin; refine wpList_append_lies _ rfl (.tmp 34) (.tmp 50) _ rfl w.heap.size 86 j0 _ 2 32 Try.underlying82 hj0 hy0 hy1 hy2 rfl (by omega) (.slice A m c) m (q.flatMap pairV) rfl HW2.out.own ⟨V.heap.size, 0, none⟩ 1 1 [.string t1, .string t2] rfl rfl (World.news_of_block (cs := #[.string t1, .string t2]) (t := 86) (fr := (0, 0)) (heap_alloc_new V.drew _)) (by simp [Value.oneCell']) (by omega) (by unfold maxLen; omega) (by omega) (by simp; omega) (V.heap.size + 1) (by simp) ?_)
          intro gA capA w5 hown hgrow _ _
          have hW5 := HW2.out.push (q := [(t1, t2)]) hown hgrow
          have HW5 := Lib.hid hW5
          clear hW5 hown hgrow
          go_wp2_with fail
          go_roundw
          case rel => exact ⟨k + 1, m + 1, q ++ [(t1, t2)], some ⟨gA, 0, none⟩, capA, by omega, by go_num, rfl, Lib.hid ⟨HST.out, by rw [List.length_append, hQQ.out.2.1]; rfl, by have := HM2.out; omega⟩, HW5⟩
          case measure => simp [intOf]; omega
        · have hks : k = s.length := by omega
          subst hks
          have hq := hQQ.out.1
          rw [List.take_length, HP.out] at hq
          have hq2 : q = edgL l s := hq
          have hm := hQQ.out.2.1
          subst hq2
          subst hm
          have HW2 := hW
          clear hQQ hW hq
          go_wp2_with fail
          go_ret
          exact ⟨A, c, rfl, HW2.out⟩
end Go.Proofs.Yteoioboiniealaa
