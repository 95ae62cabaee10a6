/- A queue of numbers: a slice whose front has been cut off, and append onto it. -/
import Derived.Test.YtljmghaplnkohaaApp
import Derived.Test.YtljmghaplnkohaaBlk
import Derived.Laws.MakeOwn
namespace Go.Proofs.Ytljmghaplnkohaa
open Go.RowKit

theorem Try.infoIntQ : (Try.prog.info? 3).map (fun i => (i.zero, i.size, i.bytes)) = some (some (.int .i64 0), 1, 8) := by kernel_rfl
theorem Try.infoBoolQ : (Try.prog.info? 4).map (fun i => (i.zero, i.size, i.bytes)) = some (some (.bool false), 1, 1) := by kernel_rfl
/-- A queue of numbers, in a block of the call's own. -/
def QOwn (w : World) (base : Nat) (v : Value) (q : List Int) : Prop :=
  (v = .slice none 0 0 ∧ q = []) ∨ ∃ g o c cur, v = .slice (some ⟨g, o, none⟩) q.length c ∧ base ≤ g ∧ Blk w g 3 cur ∧ q.length ≤ c ∧ c ≤ maxLen ∧ o + c ≤ cur.size ∧ ∀ k, k < q.length → cur[o + k]? = (q[k]?).map (Value.int .i64)
section
variable {w w' : World} {base : Nat} {v : Value} {q : List Int}
theorem QOwn.nil_ : QOwn w base (.slice none 0 0) [] := .inl ⟨rfl, rfl⟩
theorem QOwn.lt (h : QOwn w base v q) : ∀ b, v.ownBlock = some b → base ≤ b ∧ b < w.heap.size := by
  intro b hb
  rcases h with ⟨rfl, _⟩ | ⟨g, o, c, cur, rfl, h1, h2, _⟩
  · cases hb
  · have : g = b := by simpa [Value.ownBlock] using hb
    subst this
    exact ⟨h1, h2.lt⟩
theorem QOwn.keep (h : QOwn w base v q) (hk : ∀ b, v.ownBlock = some b → w'.heap[b]? = w.heap[b]?) : QOwn w' base v q :=
  h.imp id fun ⟨g, o, c, cur, hv, h1, h2, r⟩ => ⟨g, o, c, cur, hv, h1, (hk g (by rw [hv]; rfl)).trans h2, r⟩
theorem QOwn.alloc (h : QOwn w base v q) (o : Obj) : QOwn (w.alloc o) base v q := h.keep fun b hb => Below.heap_alloc w o b (h.lt b hb).2
theorem QOwn.below (h : QOwn w base v q) (hb : Below w.heap.size w w') : QOwn w' base v q := h.keep fun b hq => hb.block b (h.lt b hq).2
theorem QOwn.far (h : QOwn w base v q) {p : Addr} (hp : p.block < base) (u : Value) : QOwn (w.setCell p u) base v q :=
  h.keep fun b hq => Below.heap_setCell w p u b (by have := (h.lt b hq).1; omega)
theorem QOwn.len (h : QOwn w base v q) : ∃ A c, v = .slice A q.length c := by
  rcases h with ⟨rfl, rfl⟩ | ⟨g, o, c, cur, rfl, _⟩
  · exact ⟨none, 0, rfl⟩
  · exact ⟨_, _, rfl⟩
theorem QOwn.head {x : Int} {r : List Int} (h : QOwn w base v (x :: r)) :
    ∃ g o c, v = .slice (some ⟨g, o, none⟩) (r.length + 1) (c + 1) ∧ r.length ≤ c ∧ c + 1 ≤ maxLen ∧ g < w.heap.size ∧ w.cell? ⟨g, o, none⟩ = some (.int .i64 x) ∧ (∀ A, (A = if c = 0 then (⟨g, o, none⟩ : Addr) else ⟨g, o + 1, none⟩) → QOwn w base (.slice (some A) r.length c) r) := by
  rcases h with ⟨_, h⟩ | ⟨g, o, c, cur, rfl, h1, h2, h3, h4, h5, h6⟩
  · cases h
  · simp at h3
    obtain ⟨c, rfl⟩ : ∃ d, c = d + 1 := ⟨c - 1, by omega⟩
    refine ⟨g, o, c, rfl, by omega, h4, h2.lt, (h2.cell o).trans (h6 0 (by simp)), ?_⟩
    rintro A rfl
    by_cases hc : c = 0
    · subst hc
      rw [if_pos rfl]
      have : r = [] := List.eq_nil_of_length_eq_zero (by omega)
      subst this
      exact .inr ⟨g, o, 0, cur, rfl, h1, h2, by simp, by omega, by omega, fun k hk => by simp at hk⟩
    · rw [if_neg hc]
      exact .inr ⟨g, o + 1, c, cur, rfl, h1, h2, by omega, by omega, by omega, fun k hk => by
        have := h6 (k + 1) (by simp; omega)
        rw [show o + 1 + k = o + (k + 1) by omega, this]
        rfl⟩

section
variable {P : Program}
theorem run_append_q (ty : TypeId) (i : TypeInfo) (ht : P.underlying 22 = some (.slice 3)) (hi : P.info? 3 = some i) (hz : i.zero = some (.int .i64 0)) (hsize : i.size = 1) (hby : i.bytes = 8)
    (h : QOwn w base v q) (bx : Nat) (y : Int) (hc : w.cell? ⟨bx, 0, none⟩ = some (.int .i64 y)) (hl : q.length ≤ 1000000) (hb : base ≤ w.heap.size) :
    ∃ v' w', (Builtin.append_ #[22, 22] ty #[v, .slice (some ⟨bx, 0, none⟩) 1 1]).run P w = .ok v' w' ∧ QOwn w' base v' (q ++ [y]) ∧ w.grownBy w' v.ownBlock := by
  have hnews : ∀ j u, ([Value.int .i64 y] : List Value)[j]? = some u → w.cell? ((⟨bx, 0, none⟩ : Addr).add j) = some u := by
    intro j u hu
    match j, hu with
    | 0, hu =>
      simp at hu
      subst hu
      exact hc
  have hzc : (Value.int .i64 0).cells.size = 1 := rfl
  rcases h with ⟨rfl, rfl⟩ | ⟨g, o, c, cur, rfl, h1, h2, h3, h4, h5, h6⟩
  · have hr := run_append_nil (P := P) w 22 ty 3 i (.int .i64 0) ht hi hz ⟨bx, 0, none⟩ 1 1 [.int .i64 y] (by rw [hsize]; rfl) hnews (by omega) (by omega) (by rw [hby]; omega)
    have hge := grownCap_ge w 1 0 3
    have hcm := grownCap_le_maxLen w 1 0 3 (by unfold maxLen; omega)
    refine ⟨_, _, hr, .inr ⟨w.heap.size, 0, _, _, rfl, hb, Blk.new w.drew _ _, hge, hcm, ?_, fun k hk => ?_⟩, ⟨rfl, rfl, rfl, by simp, fun k hk _ => Below.heap_alloc w.drew _ k hk⟩⟩
    · simp only [Array.size_append, List.size_toArray, size_zeroCells, hzc, List.length_cons, List.length_nil]
      omega
    · have : k = 0 := by simp at hk; omega
      subst this
      rw [Array.getElem?_append_left (by simp)]
      rfl
  · by_cases hroom : q.length + 1 ≤ c
    · have hf := run_firstCells_some (P := P) w i.size 1 ⟨bx, 0, none⟩ 1 1 [.int .i64 y] (by rw [hsize]; rfl) hnews
      have hst := run_storeCells_at P g (o + q.length) 3 [.int .i64 y] 0 cur w h2 (by simp; omega) (by simp [Value.oneCell'])
      simp only [Nat.add_zero] at hst
      have hr : (Builtin.append_ #[22, 22] ty #[.slice (some ⟨g, o, none⟩) q.length c, .slice (some ⟨bx, 0, none⟩) 1 1]).run P w =
          .ok (.slice (some ⟨g, o, none⟩) (q.length + 1) c) (w.setRow g (cur.toList.take (o + q.length) ++ [Value.int .i64 y] ++ cur.toList.drop (o + q.length + 1)).toArray) := by
        rw [hsize] at hf
        simp [Builtin.append_, run_underlying ht, sizeOf, typeInfo, hi, hsize, Builtin.lenOf, hroom, hf, Addr.add_lit, hst]
      refine ⟨_, _, hr, .inr ⟨g, o, c, _, by simp, h1, setRow_heap w g cur _ 3 _ h2, by simpa using hroom, h4, ?_, fun k hk => ?_⟩, ⟨rfl, rfl, rfl, by simp, fun k _ hk => setRow_other w g k _ (fun e => hk (by simp [Value.ownBlock, e]))⟩⟩
      · simp only [List.size_toArray, List.length_append, List.length_take, List.length_drop, Array.length_toList, List.length_cons, List.length_nil]
        omega
      · have htk : (cur.toList.take (o + q.length)).length = o + q.length := by have hcl : cur.toList.length = cur.size := Array.length_toList; rw [List.length_take, hcl]; omega
        rw [List.getElem?_toArray, List.append_assoc]
        by_cases hkl : k < q.length
        · rw [List.getElem?_append_left (by omega), List.getElem?_take, if_pos (by omega), List.getElem?_append_left hkl]
          simpa using h6 k hkl
        · have : k = q.length := by simp at hk; omega
          subst this
          rw [List.getElem?_append_right (by omega), htk]
          simp
    · have holds : ∀ j u, (q.map (Value.int .i64))[j]? = some u → w.cell? ((⟨g, o, none⟩ : Addr).add j) = some u := by
        intro j u hu
        have hj : j < q.length := by
          have := (List.getElem?_eq_some_iff.1 hu).1
          simpa using this
        rw [Addr.add_lit, h2.cell, h6 j hj, ← hu, List.getElem?_map]
      have hr := run_append_grow (P := P) w 22 ty 3 i (.int .i64 0) ht hi hz ⟨g, o, none⟩ q.length c (q.map (Value.int .i64)) (by rw [hsize]; simp) holds ⟨bx, 0, none⟩ 1 1 [.int .i64 y] (by rw [hsize]; rfl) hnews (by omega) (by omega) (growslice_fits (by omega) (by rw [hby]; omega))
      have hge := grownCap_ge w (q.length + 1) c 3
      have hcm := grownCap_le_maxLen w (q.length + 1) c 3 (by unfold maxLen; omega)
      refine ⟨_, _, hr, .inr ⟨w.heap.size, 0, _, _, by rw [List.length_append]; rfl, hb, Blk.new w.drew _ _, by simpa using hge, hcm, ?_, fun k hk => ?_⟩, ⟨rfl, rfl, rfl, by simp, fun k hk _ => Below.heap_alloc w.drew _ k hk⟩⟩
      · simp only [Array.size_append, List.size_toArray, size_zeroCells, hzc, List.length_cons, List.length_nil, List.length_map]
        omega
      · have hk2 : k < q.length + 1 := by simpa using hk
        rw [Nat.zero_add, Array.getElem?_append_left (by simp; omega), List.append_toArray, List.getElem?_toArray, ← List.getElem?_map, List.map_append]
        rfl

theorem wpList_append_q {ops : Array Oper} {rest : List Oper} {o : Oper} {a : Act} {Q : Exit → Act → World → Prop} (hgd : o.guard = none) (s x : Operand)
    (ho : o.op = .call { callee := .builtin .append, args := #[s, x], argTypes := #[22, 22] })
    (i : TypeInfo) (ht : P.underlying 22 = some (.slice 3)) (hi : P.info? 3 = some i) (hz : i.zero = some (.int .i64 0)) (hsize : i.size = 1) (hby : i.bytes = 8)
    (hs : a.eval s = v) (h : QOwn w base v q) (bx : Nat) (y : Int) (hx : a.eval x = .slice (some ⟨bx, 0, none⟩) 1 1) (hc : w.cell? ⟨bx, 0, none⟩ = some (.int .i64 y)) (hl : q.length ≤ 1000000) (hb : base ≤ w.heap.size)
    (hK : ∀ v' w', QOwn w' base v' (q ++ [y]) → w.grownBy w' v.ownBlock → wpList P ops Q rest (a.put o.dst v') w') : wpList P ops Q (o :: rest) a w :=
  wpList_plain hgd fun _ hK2 => by
    obtain ⟨v', w', hr, h2, h3⟩ := run_append_q (P := P) o.type i ht hi hz hsize hby h bx y hc hl hb
    unfold Oper.wp execOp
    simp only [ho, resolve, invoke, builtin, Sem.run_bind, Sem.run_pure, Result.andThen_ok, List.map_toArray, List.map_cons, List.map_nil, hs, hx, hr]
    exact hK2 _ _ (hK v' w' h2 h3)
end
end
end Go.Proofs.Ytljmghaplnkohaa
