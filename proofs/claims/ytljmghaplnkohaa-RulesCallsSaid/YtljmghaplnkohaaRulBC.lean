/- A queue of numbers: a slice whose front has been cut off, and append onto it, The contract of rules.Reached, joined. -/
import Derived.Test.YtljmghaplnkohaaApp
import Derived.Test.YtljmghaplnkohaaBlk
import Derived.Laws.MakeOwn
import Derived.Test.YtljmghaplnkohaaRulAR
import Derived.Test.YtljmghaplnkohaaFindB
import Derived.Test.YtljmghaplnkohaaReg
import Derived.Deep.LoopGhost
import Derived.Deep.DeepCutAuto
import Derived.Deep.CutBlock
import Derived.Deep.QuietTactic
namespace Go.Proofs.Ytljmghaplnkohaa
open Go.RowKit

theorem Try.infoIntQ : (Try.prog.info? 3).map (fun i => (i.zero, i.size, i.bytes)) = some (some (.int .i64 0), 1, 8) := by kernel_rfl
theorem Try.infoBoolQ : (Try.prog.info? 4).map (fun i => (i.zero, i.size, i.bytes)) = some (some (.bool false), 1, 1) := by kernel_rfl
/-- A queue of numbers, in a block of the call's own. -/
def QOwn (w : World) (base : Nat) (v : Value) (q : List Int) : Prop :=
  (v = .slice none 0 0 ∧ q = []) ∨ ∃ g o c cur, v = .slice (some ⟨g, o, none⟩) q.length c ∧ base ≤ g ∧ Blk w g 3 cur ∧ q.length ≤ c ∧ c ≤ maxLen ∧ o + c ≤ cur.size ∧ ∀ k, k < q.length → cur[o + k]? = (q[k]?).map (Value.int .i64)
section
variable {w w' : World} {base : Nat} {v : Value} {q : List Int}
theorem QOwn.nil_ : QOwn w base (.slice none 0 0) [] := .inl ⟨rfl, rfl⟩
theorem QOwn.lt (h : QOwn w base v q) : ∀ b, v.ownBlock = some b → base ≤ b ∧ b < w.heap.size := by
  intro b hb
  rcases h with ⟨rfl, _⟩ | ⟨g, o, c, cur, rfl, h1, h2, _⟩
  · cases hb
  · have : g = b := by simpa [Value.ownBlock] using hb
    subst this
    exact ⟨h1, h2.lt⟩
theorem QOwn.keep (h : QOwn w base v q) (hk : ∀ b, v.ownBlock = some b → w'.heap[b]? = w.heap[b]?) : QOwn w' base v q :=
  h.imp id fun ⟨g, o, c, cur, hv, h1, h2, r⟩ => ⟨g, o, c, cur, hv, h1, (hk g (by rw [hv]; rfl)).trans h2, r⟩
theorem QOwn.alloc (h : QOwn w base v q) (o : Obj) : QOwn (w.alloc o) base v q := h.keep fun b hb => Below.heap_alloc w o b (h.lt b hb).2
theorem QOwn.below (h : QOwn w base v q) (hb : Below w.heap.size w w') : QOwn w' base v q := h.keep fun b hq => hb.block b (h.lt b hq).2
theorem QOwn.far (h : QOwn w base v q) {p : Addr} (hp : p.block < base) (u : Value) : QOwn (w.setCell p u) base v q :=
  h.keep fun b hq => Below.heap_setCell w p u b (by have := (h.lt b hq).1; omega)
theorem QOwn.len (h : QOwn w base v q) : ∃ A c, v = .slice A q.length c := by
  rcases h with ⟨rfl, rfl⟩ | ⟨g, o, c, cur, rfl, _⟩
  · exact ⟨none, 0, rfl⟩
  · exact ⟨_, _, rfl⟩
theorem QOwn.head {x : Int} {r : List Int} (h : QOwn w base v (x :: r)) :
    ∃ g o c, v = .slice (some ⟨g, o, none⟩) (r.length + 1) (c + 1) ∧ r.length ≤ c ∧ c + 1 ≤ maxLen ∧ g < w.heap.size ∧ w.cell? ⟨g, o, none⟩ = some (.int .i64 x) ∧ (∀ A, (A = if c = 0 then (⟨g, o, none⟩ : Addr) else ⟨g, o + 1, none⟩) → QOwn w base (.slice (some A) r.length c) r) := by
  rcases h with ⟨_, h⟩ | ⟨g, o, c, cur, rfl, h1, h2, h3, h4, h5, h6⟩
  · cases h
  · simp at h3
    obtain ⟨c, rfl⟩ : ∃ d, c = d + 1 := ⟨c - 1, by omega⟩
    refine ⟨g, o, c, rfl, by omega, h4, h2.lt, (h2.cell o).trans (h6 0 (by simp)), ?_⟩
    rintro A rfl
    by_cases hc : c = 0
    · subst hc
      rw [if_pos rfl]
      have : r = [] := List.eq_nil_of_length_eq_zero (by omega)
      subst this
      exact .inr ⟨g, o, 0, cur, rfl, h1, h2, by simp, by omega, by omega, fun k hk => by simp at hk⟩
    · rw [if_neg hc]
      exact .inr ⟨g, o + 1, c, cur, rfl, h1, h2, by omega, by omega, by omega, fun k hk => by
        have := h6 (k + 1) (by simp; omega)
        rw [show o + 1 + k = o + (k + 1) by omega, this]
        rfl⟩

section
variable {P : Program}
theorem run_append_q (ty : TypeId) (i : TypeInfo) (ht : P.underlying 22 = some (.slice 3)) (hi : P.info? 3 = some i) (hz : i.zero = some (.int .i64 0)) (hsize : i.size = 1) (hby : i.bytes = 8)
    (h : QOwn w base v q) (bx : Nat) (y : Int) (hc : w.cell? ⟨bx, 0, none⟩ = some (.int .i64 y)) (hl : q.length ≤ 1000000) (hb : base ≤ w.heap.size) :
    ∃ v' w', (Builtin.append_ #[22, 22] ty #[v, .slice (some ⟨bx, 0, none⟩) 1 1]).run P w = .ok v' w' ∧ QOwn w' base v' (q ++ [y]) ∧ w.grownBy w' v.ownBlock := by
  have hnews : ∀ j u, ([Value.int .i64 y] : List Value)[j]? = some u → w.cell? ((⟨bx, 0, none⟩ : Addr).add j) = some u := by
    intro j u hu
    match j, hu with
    | 0, hu =>
      simp at hu
      subst hu
      exact hc
  have hzc : (Value.int .i64 0).cells.size = 1 := rfl
  rcases h with ⟨rfl, rfl⟩ | ⟨g, o, c, cur, rfl, h1, h2, h3, h4, h5, h6⟩
  · have hr := run_append_nil (P := P) w 22 ty 3 i (.int .i64 0) ht hi hz ⟨bx, 0, none⟩ 1 1 [.int .i64 y] (by rw [hsize]; rfl) hnews (by omega) (by omega) (by rw [hby]; omega)
    have hge := grownCap_ge w 1 0 3
    have hcm := grownCap_le_maxLen w 1 0 3 (by unfold maxLen; omega)
    refine ⟨_, _, hr, .inr ⟨w.heap.size, 0, _, _, rfl, hb, Blk.new w.drew _ _, hge, hcm, ?_, fun k hk => ?_⟩, ⟨rfl, rfl, rfl, by simp, fun k hk _ => Below.heap_alloc w.drew _ k hk⟩⟩
    · simp only [Array.size_append, List.size_toArray, size_zeroCells, hzc, List.length_cons, List.length_nil]
      omega
    · have : k = 0 := by simp at hk; omega
      subst this
      rw [Array.getElem?_append_left (by simp)]
      rfl
  · by_cases hroom : q.length + 1 ≤ c
    · have hf := run_firstCells_some (P := P) w i.size 1 ⟨bx, 0, none⟩ 1 1 [.int .i64 y] (by rw [hsize]; rfl) hnews
      have hst := run_storeCells_at P g (o + q.length) 3 [.int .i64 y] 0 cur w h2 (by simp; omega) (by simp [Value.oneCell'])
      simp only [Nat.add_zero] at hst
      have hr : (Builtin.append_ #[22, 22] ty #[.slice (some ⟨g, o, none⟩) q.length c, .slice (some ⟨bx, 0, none⟩) 1 1]).run P w =
          .ok (.slice (some ⟨g, o, none⟩) (q.length + 1) c) (w.setRow g (cur.toList.take (o + q.length) ++ [Value.int .i64 y] ++ cur.toList.drop (o + q.length + 1)).toArray) := by
        rw [hsize] at hf
        simp [Builtin.append_, run_underlying ht, sizeOf, typeInfo, hi, hsize, Builtin.lenOf, hroom, hf, Addr.add_lit, hst]
      refine ⟨_, _, hr, .inr ⟨g, o, c, _, by simp, h1, setRow_heap w g cur _ 3 _ h2, by simpa using hroom, h4, ?_, fun k hk => ?_⟩, ⟨rfl, rfl, rfl, by simp, fun k _ hk => setRow_other w g k _ (fun e => hk (by simp [Value.ownBlock, e]))⟩⟩
      · simp only [List.size_toArray, List.length_append, List.length_take, List.length_drop, Array.length_toList, List.length_cons, List.length_nil]
        omega
      · have htk : (cur.toList.take (o + q.length)).length = o + q.length := by have hcl : cur.toList.length = cur.size := Array.length_toList; rw [List.length_take, hcl]; omega
        rw [List.getElem?_toArray, List.append_assoc]
        by_cases hkl : k < q.length
        · rw [List.getElem?_append_left (by omega), List.getElem?_take, if_pos (by omega), List.getElem?_append_left hkl]
          simpa using h6 k hkl
        · have : k = q.length := by simp at hk; omega
          subst this
          rw [List.getElem?_append_right (by omega), htk]
          simp
    · have holds : ∀ j u, (q.map (Value.int .i64))[j]? = some u → w.cell? ((⟨g, o, none⟩ : Addr).add j) = some u := by
        intro j u hu
        have hj : j < q.length := by
          have := (List.getElem?_eq_some_iff.1 hu).1
          simpa using this
        rw [Addr.add_lit, h2.cell, h6 j hj, ← hu, List.getElem?_map]
      have hr := run_append_grow (P := P) w 22 ty 3 i (.int .i64 0) ht hi hz ⟨g, o, none⟩ q.length c (q.map (Value.int .i64)) (by rw [hsize]; simp) holds ⟨bx, 0, none⟩ 1 1 [.int .i64 y] (by rw [hsize]; rfl) hnews (by omega) (by omega) (growslice_fits (by omega) (by rw [hby]; omega))
      have hge := grownCap_ge w (q.length + 1) c 3
      have hcm := grownCap_le_maxLen w (q.length + 1) c 3 (by unfold maxLen; omega)
      refine ⟨_, _, hr, .inr ⟨w.heap.size, 0, _, _, by rw [List.length_append]; rfl, hb, Blk.new w.drew _ _, by simpa using hge, hcm, ?_, fun k hk => ?_⟩, ⟨rfl, rfl, rfl, by simp, fun k hk _ => Below.heap_alloc w.drew _ k hk⟩⟩
      · simp only [Array.size_append, List.size_toArray, size_zeroCells, hzc, List.length_cons, List.length_nil, List.length_map]
        omega
      · have hk2 : k < q.length + 1 := by simpa using hk
        rw [Nat.zero_add, Array.getElem?_append_left (by simp; omega), List.append_toArray, List.getElem?_toArray, ← List.getElem?_map, List.map_append]
        rfl

theorem wpList_append_q {ops : Array Oper} {rest : List Oper} {o : Oper} {a : Act} {Q : Exit → Act → World → Prop} (hgd : o.guard = none) (s x : Operand)
    (ho : o.op = .call { callee := .builtin .append, args := #[s, x], argTypes := #[22, 22] })
    (i : TypeInfo) (ht : P.underlying 22 = some (.slice 3)) (hi : P.info? 3 = some i) (hz : i.zero = some (.int .i64 0)) (hsize : i.size = 1) (hby : i.bytes = 8)
    (hs : a.eval s = v) (h : QOwn w base v q) (bx : Nat) (y : Int) (hx : a.eval x = .slice (some ⟨bx, 0, none⟩) 1 1) (hc : w.cell? ⟨bx, 0, none⟩ = some (.int .i64 y)) (hl : q.length ≤ 1000000) (hb : base ≤ w.heap.size)
    (hK : ∀ v' w', QOwn w' base v' (q ++ [y]) → w.grownBy w' v.ownBlock → wpList P ops Q rest (a.put o.dst v') w') : wpList P ops Q (o :: rest) a w :=
  wpList_plain hgd fun _ hK2 => by
    obtain ⟨v', w', hr, h2, h3⟩ := run_append_q (P := P) o.type i ht hi hz hsize hby h bx y hc hl hb
    unfold Oper.wp execOp
    simp only [ho, resolve, invoke, builtin, Sem.run_bind, Sem.run_pure, Result.andThen_ok, List.map_toArray, List.map_cons, List.map_nil, hs, hx, hr]
    exact hK2 _ _ (hK v' w' h2 h3)
end
end
end Go.Proofs.Ytljmghaplnkohaa
namespace Go.Proofs.Ytljmghaplnkohaa
open Go.RowKit

/-- What comes back is a row of new numbers. -/
def RetInts (w : World) (l : List Int) (e : Ending) (w' : World) : Prop :=
  ∃ A c, e = .returned (.slice A l.length c) ∧ w'.ownsRow w.heap.size 3 1 (.slice A l.length c) l.length (l.map (Value.int .i64)) ∧ Below w.heap.size w w'
/-- What has been seen lies in a block of the call's own. -/
structure RW (w : World) (d : Nat) (sn : List Bool) (W : World) : Prop where
  bel : Below w.heap.size w W
  ge : w.heap.size ≤ d
  db : Blk W d 4 (sn.map Value.bool).toArray
section
variable {w W W' : World} {d : Nat} {sn : List Bool}
theorem RW.alloc (h : RW w d sn W) (o : Obj) : RW w d sn (W.alloc o) := ⟨h.bel.alloc h.bel.size _, h.ge, h.db.alloc _⟩
theorem RW.below (h : RW w d sn W) (hb : Below W.heap.size W W') : RW w d sn W' := ⟨h.bel.trans (hb.mono h.bel.size), h.ge, h.db.below hb h.db.lt⟩
theorem RW.grown (h : RW w d sn W) {row : Option Nat} (hg : W.grownBy W' row) (hr : ∀ b, row = some b → d + 1 ≤ b) : RW w d sn W' :=
  ⟨h.bel.grown hg h.bel.size (fun k hk => by have := hr k hk; have := h.ge; omega), h.ge, h.db.grown hg (fun e => by have := hr d e.symm; omega)⟩
theorem RW.set_ (h : RW w d sn W) (k : Nat) : RW w d (sn.set k true) (W.setCell ⟨d, k, none⟩ (.bool true)) :=
  ⟨h.bel.setCell (p := ⟨d, k, none⟩) h.ge _, h.ge, by
    have := h.db.set_ k (.bool true)
    simpa [List.map_set] using this⟩
theorem RW.drewN (h : RW w d sn W) (n : Nat) : RW w d sn (W.drewN n) := ⟨below_drewN h.bel n, h.ge, h.db⟩
theorem RW.cell (h : RW w d sn W) {k : Nat} {b : Bool} (hk : sn[k]? = some b) : W.cell? ⟨d, k, none⟩ = some (.bool b) := by
  rw [h.db.cell, List.getElem?_toArray, List.getElem?_map, hk]
  rfl
end
theorem rd_formR {α : Type} {w : World} {e sz : Nat} {f : α → List Dat} {l : List α} {v : Value} (h : Rd w (datS e sz f l) v) : ∃ A c, v = .slice A l.length c := by
  obtain ⟨A, c, _, rfl, _⟩ := rd_sl.1 h
  exact ⟨A, c, rfl⟩
theorem seen_made (n : Nat) : madeCells #[.bool false] n = ((List.replicate n false).map Value.bool).toArray := by
  apply Array.ext
  · simp [size_madeCells]
  · intro i h1 h2
    simp [madeCells, Nat.mod_one]
/-- What holds at each round's head of the first loop. -/
def InR1 (w : World) (d : Nat) (l : List ItemD) (v iv : Value) (wr : World) : Prop :=
  ∃ k : Nat, k ≤ l.length ∧ iv = .int .i64 k ∧ RW w d (seen0 l k) wr ∧ QOwn wr (d + 1) v (placesFrom isSt (l.take k) 0)
/-- .. of the outer loop. -/
def InR2 (w : World) (d : Nat) (l : List ItemD) (s : List SeqD) (n : Nat) (v : Value) (wr : World) : Prop :=
  ∃ sn q, RW w d sn wr ∧ QOwn wr (d + 1) v q ∧ RInv l s sn q ∧ 2 * cf sn + q.length ≤ n
/-- .. of the inner loop. -/
def InR3 (w : World) (d : Nat) (l : List ItemD) (s : List SeqD) (i M : Nat) (v jv : Value) (wr : World) : Prop :=
  ∃ (j : Nat) (sn : List Bool) (q : List Int), j ≤ s.length ∧ jv = .int .i64 j ∧ RW w d sn wr ∧ QOwn wr (d + 1) v q ∧ RIn l s i j M sn q
/-- .. of the last loop. -/
def InR4 (w : World) (d : Nat) (sn : List Bool) (v iv : Value) (wr : World) : Prop :=
  ∃ k : Nat, k ≤ sn.length ∧ iv = .int .i64 k ∧ RW w d sn wr ∧ wr.ownsRow (d + 1) 3 1 v (placesFrom (fun b : Bool => b) (sn.take k) 0).length ((placesFrom (fun b : Bool => b) (sn.take k) 0).map (Value.int .i64))

set_option maxRecDepth 100000 in
set_option maxHeartbeats 4000000 in
theorem reached_any {w : World} {vl vs : Value} {l : List ItemD} {s : List SeqD} (hv : Rd w (itemsD l) vl) (hs : Rd w (seqsD s) vs) (hl : l.length ≤ 100000) (hsl : s.length ≤ 100000) :
    Calls Try.prog 10 #[vl, vs] w fun e w' => ∃ sn : List Bool, sn.length = l.length ∧ (∀ i : Nat, sn[i]? = some true ↔ Reach l s i) ∧ RetInts w (placesFrom (fun b : Bool => b) sn 0) e w' := by
  obtain ⟨i0, hi0, hz0, hz1, hz2⟩ := info_parts Try.infoIntQ
  have HV := Lib.hid hv
  obtain ⟨A, c, rfl, hlc, hcm, hat⟩ := rd_at itemC_len hv
  obtain ⟨B, cB, rfl, hlB, hcB, haB⟩ := rd_at seqC_len hs
  have HAT := Lib.hid hat
  have HBT := Lib.hid haB
  obtain ⟨n, hn⟩ : ∃ n, n = l.length := ⟨_, rfl⟩
  have hmk : ∀ W : World, (Instr.makeSlice 34 (.int .i64 l.length) (.int .i64 l.length)).run Try.prog W = .ok (.slice (some ⟨W.heap.size, 0, none⟩) l.length l.length) (W.alloc (.cells ((seen0 l 0).map Value.bool).toArray 4)) := fun W => by
    obtain ⟨j0, hj0, hy0, hy1, hy2⟩ := info_parts Try.infoBoolQ
    have h := run_make (P := Try.prog) W 34 4 j0 (.bool false) Try.underlying34 hj0 hy0 .i64 .i64 l.length l.length (by omega) (by omega) (by rw [hy2]; omega) (by omega)
    have e0 : seen0 l 0 = List.replicate l.length false := by simp [seen0]
    rw [e0, ← seen_made]
    rw [hy1, Nat.mul_one, Int.toNat_natCast] at h
    exact h
  have HMK := Lib.hid hmk
  obtain ⟨W, hW⟩ : ∃ W, W = w.alloc (.cells ((seen0 l 0).map Value.bool).toArray 4) := ⟨_, rfl⟩
  have hR0 : RW w w.heap.size (seen0 l 0) W := by rw [hW]; exact ⟨(Below.refl _ _).alloc (Nat.le_refl _) _, Nat.le_refl _, Blk.new _ _ _⟩
  obtain ⟨d, hd⟩ : ∃ d, d = w.heap.size := ⟨_, rfl⟩
  rw [← hd] at hR0
  have HR0 := Lib.hid hR0
  have HW := Lib.hid hW.symm
  have HD := Lib.hid hd.symm
  clear hv hs hat haB hmk hW hR0 hcm hcB hd hn
  go_enter Try.func10, Try.ntmps10
  go_upto_region 1 with fail
  have hmk1 := HMK.out w
  go_upto_region 2 with fail
  rw [HW.out, HD.out]
  clear hmk1
  go_wp2_with fail
  go_loopw [6, 20] (fun v iv wr => InR1 w d l v iv wr) (fun _ iv _ => l.length - (intOf iv).toNat)
  case atStart => exact ⟨0, Nat.zero_le _, rfl, HR0.out, by rw [List.take_zero]; exact .nil_⟩
  case round =>
    obtain ⟨k, hk, rfl, hR, hQ⟩ := hrel
    have HR := Lib.hid hR
    have HQ := Lib.hid hQ
    have hszw := hR.bel.size
    have hdl := hR.db.lt
    have hpl := places_le isSt l k
    clear hR hQ
    by_cases hlt : k < l.length
    · obtain ⟨b, vs, rfl, hbl, _, hvs, hcell⟩ := HAT.out k hlt
      have hst := places_step isSt l k hlt
      have hse := seen0_step l k hlt
      have hsl0 := seen0_len l k (by omega)
      have hpk : isSt l[k] = (l[k].kind == 1) := rfl
      generalize l[k] = x at *
      obtain ⟨vP, vF, vM, vI, vS, rfl, hV⟩ := rd_itemC.1 hvs
      obtain ⟨E1, e1, rfl⟩ := rd_formR hV.1
      obtain ⟨E2, e2, rfl⟩ := rd_formR hV.2.1
      obtain ⟨E3, e3, rfl⟩ := rd_formO hV.2.2.1
      obtain ⟨E4, e4, rfl⟩ := rd_formR hV.2.2.2.1
      obtain ⟨E5, e5, rfl⟩ := rd_formR hV.2.2.2.2
      have x0 : wr.cell? ⟨b, k * 10, none⟩ = some (.int .i64 x.kind) := (HR.out.bel.cell (p := ⟨b, k * 10, none⟩) (by omega)).trans (hcell 0 (by omega))
      have x1 : wr.cell? ⟨b, k * 10 + 1, none⟩ = some (.string x.id) := (HR.out.bel.cell (p := ⟨b, k * 10 + 1, none⟩) (by omega)).trans (hcell 1 (by omega))
      have x2 : wr.cell? ⟨b, k * 10 + 2, none⟩ = some (.string x.first) := (HR.out.bel.cell (p := ⟨b, k * 10 + 2, none⟩) (by omega)).trans (hcell 2 (by omega))
      have x3 : wr.cell? ⟨b, k * 10 + 3, none⟩ = some (.slice E1 x.parts.length e1) := (HR.out.bel.cell (p := ⟨b, k * 10 + 3, none⟩) (by omega)).trans (hcell 3 (by omega))
      have x4 : wr.cell? ⟨b, k * 10 + 4, none⟩ = some (.slice E2 x.flows.length e2) := (HR.out.bel.cell (p := ⟨b, k * 10 + 4, none⟩) (by omega)).trans (hcell 4 (by omega))
      have x5 : wr.cell? ⟨b, k * 10 + 5, none⟩ = some (.bool x.loop) := (HR.out.bel.cell (p := ⟨b, k * 10 + 5, none⟩) (by omega)).trans (hcell 5 (by omega))
      have x6 : wr.cell? ⟨b, k * 10 + 6, none⟩ = some (.string x.called) := (HR.out.bel.cell (p := ⟨b, k * 10 + 6, none⟩) (by omega)).trans (hcell 6 (by omega))
      have x7 : wr.cell? ⟨b, k * 10 + 7, none⟩ = some (.slice E3 x.maps.length e3) := (HR.out.bel.cell (p := ⟨b, k * 10 + 7, none⟩) (by omega)).trans (hcell 7 (by omega))
      have x8 : wr.cell? ⟨b, k * 10 + 8, none⟩ = some (.slice E4 x.items.length e4) := (HR.out.bel.cell (p := ⟨b, k * 10 + 8, none⟩) (by omega)).trans (hcell 8 (by omega))
      have x9 : wr.cell? ⟨b, k * 10 + 9, none⟩ = some (.slice E5 x.seqs.length e5) := (HR.out.bel.cell (p := ⟨b, k * 10 + 9, none⟩) (by omega)).trans (hcell 9 (by omega))
      clear hcell hvs hV
      cases ht : isSt x
      · rw [ht] at hst hse hpk
        rw [if_neg Bool.false_ne_true, List.append_nil] at hst
        rw [if_neg Bool.false_ne_true] at hse
        have hpk2 := hpk.symm
        have Hst := Lib.hid hst
        have Hse := Lib.hid hse
        clear hst hse hpk ht
        go_wp2_with fail
        go_roundw
        case rel => exact ⟨k + 1, by omega, by go_num, by rw [Hse.out]; exact HR.out.alloc _, by rw [Hst.out]; exact HQ.out.alloc _⟩
        case measure => simp [intOf]; omega
      · rw [ht] at hst hse hpk
        rw [if_pos rfl] at hst hse
        have hpk2 := hpk.symm
        have Hst := Lib.hid hst
        have Hse := Lib.hid hse
        clear hst hse hpk ht
        have hsk : ∃ bb, (seen0 l k)[k]? = some bb := ⟨_, List.getElem?_eq_getElem (by omega)⟩
        obtain ⟨bb, hbb⟩ := hsk
        have HBBK := Lib.hid hbb
        clear hbb
        go_wp2_with (at_builtin; refine wpList_append_q rfl (.tmp 30) (.tmp 32) rfl i0 Try.underlying22 hi0 hz0 hz1 hz2 rfl ((HQ.out.alloc _).alloc _) (wr.heap.size + 1) (k : Int) rfl (by simp) (by omega) (by simp; omega) ?_)
        intro v2 w2 hq2 hg2
        have hR2 : RW w d (seen0 l k) w2 := ((HR.out.alloc _).alloc _).grown hg2 (fun b hb => (HQ.out.lt b hb).1)
        have z0 := hR2.cell HBBK.out
        have zf := hR2.db.frozen k
        have hdl2 := hR2.db.lt
        obtain ⟨AQ, cQ, rfl⟩ := hq2.len
        have HR2 := Lib.hid hR2
        have HQ2 := Lib.hid hq2
        clear hR2 hq2 hg2
        go_wp2_with fail
        go_roundw
        case rel => exact ⟨k + 1, by omega, by go_num, by rw [Hse.out]; exact HR2.out.set_ k, by rw [Hst.out]; exact HQ2.out.far (by simp) _⟩
        case measure => simp [intOf]; omega
    · have hkl : k = l.length := by omega
      subst hkl
      have hinv := RInv.start l s
      have hms : 2 * cf (seen0 l l.length) + (placesFrom isSt (l.take l.length) 0).length ≤ 2 * l.length := hinv.base.bnd
      have HI2 := Lib.hid (show InR2 w d l s (2 * l.length) _ wr from ⟨_, _, HR.out, HQ.out, hinv, hms⟩)
      clear hinv hms HR HQ
      go_wp2_with fail
      go_loopg [6] (2 * l.length) (fun n v wr => InR2 w d l s n v wr)
      case atStart => exact HI2.out
      case round =>
        obtain ⟨sn, q, hR, hQ, hI, hm⟩ := hrel
        obtain ⟨V, rfl⟩ : ∃ V, V = wr := ⟨_, rfl⟩
        have HR := Lib.hid hR
        have HI := Lib.hid hI
        have hszw := hR.bel.size
        have hdl := hR.db.lt
        have hbnd := hI.base.bnd
        have hsnl := hI.base.len
        cases q with
        | nil =>
          obtain ⟨AQ, cQ, rfl⟩ : ∃ A c, _ = Value.slice A 0 c := hQ.len
          clear hR hQ hI hm
          have HN := Lib.hid (show InR4 w d sn _ _ V from ⟨0, Nat.zero_le _, rfl, HR.out, by rw [List.take_zero]; exact World.ownsRow_nil _ _ _ _⟩)
          clear hbnd
          go_wp2_with fail
          go_loopw [7, 83] (fun v iv wr => InR4 w d sn v iv wr) (fun _ iv _ => l.length - (intOf iv).toNat)
          case atStart => exact HN.out
          case round =>
            clear HN HR hszw hdl
            obtain ⟨k, hk, rfl, hR, hO⟩ := hrel
            have HR := Lib.hid hR
            have HO := Lib.hid hO
            have hszw := hR.bel.size
            have hdl := hR.db.lt
            have hpl := places_le (fun b : Bool => b) sn k
            by_cases hltl : k < l.length
            · have hlt : k < sn.length := by omega
              have hst := places_step (fun b : Bool => b) sn k hlt
              obtain ⟨bb, hbb⟩ : ∃ bb, bb = sn[k] := ⟨_, rfl⟩
              rw [← hbb] at hst
              have yS : wr.cell? ⟨d, k, none⟩ = some (.bool bb) := hR.cell (by rw [List.getElem?_eq_getElem hlt, hbb])
              clear hbb hR hO
              cases bb with
              | false =>
                rw [if_neg Bool.false_ne_true, List.append_nil] at hst
                have Hst := Lib.hid hst
                clear hst
                go_wp2_with fail
                go_roundw
                case rel => exact ⟨k + 1, by omega, by go_num, HR.out, by rw [Hst.out]; exact HO.out⟩
                case measure => simp [intOf]; omega
              | true =>
                rw [if_pos rfl] at hst
                have Hst := Lib.hid hst
                clear hst
                go_wp2_with (at_builtin; refine wpList_append_lies _ rfl (.tmp 90) (.tmp 92) _ rfl (d + 1) 3 i0 _ 1 8 Try.underlying22 hi0 hz0 hz1 hz2 rfl (by omega) _ _ _ rfl (HO.out.alloc _) ⟨wr.heap.size, 0, none⟩ 1 1 [.int .i64 k] rfl rfl (World.news_of_block (cs := #[.int .i64 k]) (t := 3) (fr := (0, 0)) (heap_alloc_new wr _)) (by simp [Value.oneCell']) (by omega) (by unfold maxLen; omega) (by omega) (by simp; omega) (wr.heap.size + 1) (by simp) ?_)
                intro gO capO w2 hown2 hgrow hat2 hlt3
                have hR2 : RW w d sn w2 := (HR.out.alloc _).grown hgrow (fun b hb => ((HO.out.alloc (.cells #[.int .i64 k] 3)).lt b hb).1)
                have HR2 := Lib.hid hR2
                clear hR2 hgrow hat2
                go_wp2_with fail
                go_roundw
                case rel => exact ⟨k + 1, by omega, by go_num, HR2.out, by rw [Hst.out]; simpa using hown2⟩
                case measure => simp [intOf]; omega
            · have hkl : sn.length ≤ k := by omega
              clear hR hO
              go_wp2_with fail
              go_ret
              have hO := HO.out
              rw [List.take_of_length_le hkl] at hO
              obtain ⟨A', c', rfl, _, _⟩ := own_slice hO
              exact ⟨sn, hsnl, HI.out.fin, A', c', rfl, own_mono hO (by have := HR.out.ge; omega), HR.out.bel⟩
        | cons y r =>
          obtain ⟨g, o, cc, rfl, hrc, hcm, hgl, hgc, hQt⟩ := hQ.head
          obtain ⟨i, rfl, hin⟩ := hI.pop
          have hil := hin.hi
          have hM : 2 * cf sn + r.length + 1 ≤ gk := by simp at hm; omega
          have hrl : r.length ≤ 2 * l.length := by simp at hbnd; omega
          unfold maxLen at hcm
          obtain ⟨M, hMe⟩ : ∃ M, M = 2 * cf sn + r.length := ⟨_, rfl⟩
          rw [← hMe] at hin hM
          obtain ⟨AT, hAT⟩ : ∃ AT : Addr, AT = if cc = 0 then (⟨g, o, none⟩ : Addr) else ⟨g, o + 1, none⟩ := ⟨_, rfl⟩
          have hQ2 := hQt AT hAT
          have HI3 : Hid (InR3 w d l s i M (.slice (some AT) r.length cc) (.int .i64 0) V) := Lib.hid ⟨0, sn, r, Nat.zero_le _, rfl, hR, hQ2, hin⟩
          obtain ⟨bI, vsI, hAI, hbI, _, hvI, hcI⟩ := HAT.out i hil
          obtain ⟨xi, hxi⟩ : ∃ z, z = idAt l i := ⟨_, rfl⟩
          have hidI : w.cell? ⟨bI, i * 10 + 1, none⟩ = some (.string xi) := by
            obtain ⟨_, _, _, _, _, e, _⟩ := rd_itemC.1 hvI
            rw [hcI 1 (by omega), e, hxi]
            simp [idAt, hil]
          have HIDI := Lib.hid hidI
          have HXI := Lib.hid hxi
          have HAT2 := Lib.hid hAT
          clear hR hQ hI hm hin hMe hQt hQ2 hvI hcI hxi hidI hAT HR HI hsnl hbnd
          subst hAI
          go_upto_region 11 with fail
          go_cut [6] (fun v wx => v = .slice (some AT) r.length cc ∧ wx = V)
          case first =>
            by_cases hc0 : cc = 0
            · have hAT := HAT2.out
              rw [if_pos hc0] at hAT
              subst hAT
              subst hc0
              have hr0 : r = [] := List.eq_nil_of_length_eq_zero (by omega)
              subst hr0
              go_wp2_with fail
              go_meet
              case rel => exact ⟨rfl, rfl⟩
            · have hAT := HAT2.out
              rw [if_neg hc0] at hAT
              subst hAT
              have hc1 : ¬ cc + 1 = 1 := by omega
              go_wp2_with fail
              go_meet
              case rel => exact ⟨rfl, rfl⟩
          case rest =>
            obtain ⟨rfl, hwc⟩ := hcut
            rw [hwc]
            clear hwc
            go_wp2_with fail
            go_loopw [6, 46] (fun v jv wr => InR3 w d l s i M v jv wr) (fun _ jv _ => s.length - (intOf jv).toNat)
            case atStart => exact HI3.out
            case round =>
              clear HI3 hszw hdl hgc
              obtain ⟨j, sn, q, hj, rfl, hR, hQ, hI⟩ := hrel
              have HR := Lib.hid hR
              have HQ := Lib.hid hQ
              have HI := Lib.hid hI
              have hszw := hR.bel.size
              have hdl := hR.db.lt
              have hbnd := hI.base.bnd
              have hsnl := hI.base.len
              obtain ⟨AQ, cQ, rfl⟩ := hQ.len
              clear hR hQ hI
              by_cases hlt : j < s.length
              · obtain ⟨bS, vs, rfl, hbS, _, hvs, hcell⟩ := HBT.out j hlt
                have hsk : ∀ P : RIn l s i (j + 1) M sn q → True, True := fun _ => trivial
                clear hsk
                obtain ⟨qq, hqq⟩ : ∃ z, z = s[j] := ⟨_, rfl⟩
                rw [← hqq] at hvs
                obtain rfl := rd_seqC hvs
                have x0 : wr.cell? ⟨bS, j * 3, none⟩ = some (.string qq.id) := (HR.out.bel.cell (p := ⟨bS, j * 3, none⟩) hbS).trans (hcell 0 (by omega))
                have x1 : wr.cell? ⟨bS, j * 3 + 1, none⟩ = some (.string qq.src) := (HR.out.bel.cell (p := ⟨bS, j * 3 + 1, none⟩) hbS).trans (hcell 1 (by omega))
                have x2 : wr.cell? ⟨bS, j * 3 + 2, none⟩ = some (.string qq.dst) := (HR.out.bel.cell (p := ⟨bS, j * 3 + 2, none⟩) hbS).trans (hcell 2 (by omega))
                have HQQ := Lib.hid hqq
                clear hcell hvs hqq
                have HRA := Lib.hid (HR.out.alloc (.cells #[.string qq.id, .string qq.src, .string qq.dst] 33))
                have HQA := Lib.hid (HQ.out.alloc (.cells #[.string qq.id, .string qq.src, .string qq.dst] 33))
                have hbx := Blk.new wr 33 #[.string qq.id, .string qq.src, .string qq.dst]
                have HBX := Lib.hid hbx
                clear hbx
                obtain ⟨kk, hkk⟩ : ∃ z, z = itemK l qq.dst := ⟨_, rfl⟩
                have HKK := Lib.hid hkk
                have hkb := itemK_bounds l qq.dst
                rw [← hkk] at hkb
                have HKB := Lib.hid hkb
                clear hkk hkb
                go_wp2_with fail
                refine (idsItem_any qq.dst (Rd.below HRA.out.bel _ _ HV.out)).mono ?_
                rintro e w3 ⟨rfl, hb3⟩
                rw [show findFrom (fun x : ItemD => eqS x.id qq.dst) l 0 = kk from HKK.out.symm]
                have hR3 := HRA.out.below hb3
                have HQ3 := Lib.hid (HQA.out.below hb3)
                have hbx3 := HBX.out.below hb3 HBX.out.lt
                have y1 : w3.cell? ⟨wr.heap.size, 1, none⟩ = some (.string qq.src) := hbx3.cell 1
                have yI : w3.cell? ⟨bI, i * 10 + 1, none⟩ = some (.string xi) := (hR3.bel.cell (p := ⟨bI, i * 10 + 1, none⟩) hbI).trans HIDI.out
                have HR3 := Lib.hid hR3
                have hszw3 := hR3.bel.size
                have hdl3 := hR3.db.lt
                have hb34 := hb3.size
                clear hR3 hbx3 hb3 x0 x1 x2 HRA HQA HBX
                go_upto_region 16 with fail
                cases hs1 : eqS qq.src xi with
                | false =>
                  have hs2 : (qq.src.toList == xi.toList) = false := hs1
                  have HN := Lib.hid (HI.out.skipSrc hlt (by rw [← HQQ.out, ← HXI.out]; exact hs1))
                  clear hs1
                  go_quiet (fail)
                  go_wp2_with fail
                  go_roundw
                  case rel => exact ⟨j + 1, sn, q, by omega, by go_num, HR3.out.drewN _, HQ3.out, HN.out⟩
                  case measure => simp [intOf]; omega
                | true =>
                  have hs2 : (qq.src.toList == xi.toList) = true := hs1
                  have hs3 : eqS (s[j]).src (idAt l i) = true := by rw [← HQQ.out, ← HXI.out]; exact hs1
                  have HS3 := Lib.hid hs3
                  clear hs1 hs3
                  by_cases hk0 : kk < 0
                  · have HN := Lib.hid (HI.out.skipNo hlt (by rw [← HQQ.out, ← HKK.out]; exact hk0))
                    have hk1 : ¬ (0 : Int) ≤ kk := by omega
                    have hk2 : decide ((0 : Int) ≤ kk) = false := by simpa using hk0
                    go_quiet (fail)
                    go_wp2_with fail
                    go_roundw
                    case rel => exact ⟨j + 1, sn, q, by omega, by go_num, HR3.out.drewN _, HQ3.out, HN.out⟩
                    case measure => simp [intOf]; omega
                  · obtain ⟨k, hkn⟩ : ∃ k : Nat, kk = (k : Int) := ⟨kk.toNat, by omega⟩
                    have hkl : k < l.length := by have := HKB.out; omega
                    have hkd : itemK l (s[j]).dst = (k : Int) := by rw [← HQQ.out, ← HKK.out, hkn]
                    have HKD := Lib.hid hkd
                    clear hkd hk0
                    subst hkn
                    obtain ⟨bb, hbb⟩ : ∃ bb, sn[k]? = some bb := ⟨_, List.getElem?_eq_getElem (by omega)⟩
                    have yS := HR3.out.cell hbb
                    have HBBK := Lib.hid hbb
                    clear hbb
                    cases bb with
                    | true =>
                      have HN := Lib.hid (HI.out.skipSeen hlt HKD.out HBBK.out)
                      go_quiet (fail)
                      go_wp2_with fail
                      go_roundw
                      case rel => exact ⟨j + 1, sn, q, by omega, by go_num, HR3.out.drewN _, HQ3.out, HN.out⟩
                      case measure => simp [intOf]; omega
                    | false =>
                      have HN := Lib.hid (HI.out.push hlt HS3.out HKD.out HBBK.out)
                      go_quiet (fail)
                      have HR4 := Lib.hid (HR3.out.drewN nq)
                      have HQ4 := Lib.hid (show QOwn (w3.drewN nq) (d + 1) (.slice AQ q.length cQ) q from HQ3.out)
                      have hdl4 : d < (w3.drewN nq).heap.size := HR4.out.db.lt
                      obtain ⟨w4, hw4⟩ : ∃ W, W = w3.drewN nq := ⟨_, rfl⟩
                      rw [← hw4] at HR4 HQ4 hdl4
                      rw [← hw4]
                      clear hw4 y1 yI yS HR3 HQ3
                      go_wp2_with (at_builtin; refine wpList_append_q rfl (.tmp 75) (.tmp 77) rfl i0 Try.underlying22 hi0 hz0 hz1 hz2 rfl (HQ4.out.alloc _) w4.heap.size (k : Int) rfl (by simp) (by omega) (by simp; omega) ?_)
                      intro v2 w2 hq2 hg2
                      have hR2 : RW w d sn w2 := (HR4.out.alloc _).grown hg2 (fun b hb => (HQ4.out.lt b hb).1)
                      have z0 := hR2.cell HBBK.out
                      have zf := hR2.db.frozen k
                      have hdl2 := hR2.db.lt
                      obtain ⟨AX, cX, rfl⟩ := hq2.len
                      have HR2 := Lib.hid hR2
                      have HQ2 := Lib.hid hq2
                      clear hR2 hq2 hg2
                      go_wp2_with fail
                      go_roundw
                      case rel => exact ⟨j + 1, _, _, by omega, by go_num, HR2.out.set_ k, HQ2.out.far (by simp) _, HN.out⟩
                      case measure => simp [intOf]; omega
              · have hje : s.length ≤ j := by omega
                have hdone := HI.out.done hje
                have HN := Lib.hid (show InR2 w d l s M _ wr from ⟨sn, q, HR.out, HQ.out, hdone.1, hdone.2⟩)
                clear hdone
                go_wp2_with fail
                go_roundg M
                case measure => omega
                case rel => exact HN.out

end Go.Proofs.Ytljmghaplnkohaa
