/- The walk of the law GraphCheck. -/
import Derived.Test.YteoioboiniealaaGraphL
import Derived.Laws.MakeOwn
import Derived.Deep.QuietTactic
namespace Go.Proofs.Yteoioboiniealaa
open Go.RowKit

theorem placesFrom_cnt {α : Type} (p : α → Bool) : ∀ (l : List α) (k : Nat), (placesFrom p l k).length = (l.filter p).length
  | [], _ => rfl
  | x :: l, k => by
    rw [placesFrom, List.filter_cons]
    split
    · simp [placesFrom_cnt p l (k + 1)]
    · exact placesFrom_cnt p l (k + 1)
/-- How many of the first ones have a property. -/
def cntN {α : Type} (p : α → Bool) (l : List α) (k : Nat) : Nat := ((l.take k).filter p).length
theorem cntN_step {α : Type} (p : α → Bool) (l : List α) (k : Nat) (h : k < l.length) : cntN p l (k + 1) = cntN p l k + if p l[k] = true then 1 else 0 := by
  unfold cntN
  rw [List.take_succ_eq_append_getElem h, List.filter_append, List.length_append, List.filter_cons]
  split <;> simp
theorem cntN_le {α : Type} (p : α → Bool) (l : List α) (k : Nat) : cntN p l k ≤ k := Nat.le_trans (List.length_filter_le _ _) (List.length_take_le _ _)
theorem cntN_all {α : Type} (p : α → Bool) (l : List α) (k : Nat) (h : l.length ≤ k) : cntN p l k = (l.filter p).length := by unfold cntN; rw [List.take_of_length_le h]
theorem inN_cnt (es : List (Int × Int)) (i : Int) : inN es i = cntN (fun x : Int × Int => x.2 == i) es es.length := by rw [cntN_all _ _ _ (Nat.le_refl _)]; exact placesFrom_cnt _ _ _
theorem outN_cnt (es : List (Int × Int)) (i : Int) : outN es i = cntN (fun x : Int × Int => x.1 == i) es es.length := by rw [cntN_all _ _ _ (Nat.le_refl _)]; exact placesFrom_cnt _ _ _

/-- The graph that was made, in memory, behind Any. -/
theorem AnyW.gr {w W : World} {AN AE : Option Addr} {cN cE : Nat} {ns : List GN} {es : List (Int × Int)} (h : AnyW w (.slice AN ns.length cN) (.slice AE es.length cE) ns es W) :
    Gr W (some ⟨w.heap.size + 1, 0, none⟩) (some ⟨w.heap.size + 1 + 1, 0, none⟩) AN AE 3 2 cN cE 3 2 ns es :=
  ⟨⟨[.string ⟨#[112, 97]⟩, .string ⟨#[112, 98]⟩, .string ⟨#[112, 99]⟩], ⟨rfl, .inr ⟨w.heap.size + 1, 3, _, rfl, by omega, h.pb, by omega, by unfold maxLen; omega, rfl, rfl⟩⟩⟩,
   ⟨[.string ⟨#[109, 97]⟩, .string ⟨#[109, 98]⟩], ⟨rfl, .inr ⟨w.heap.size + 1 + 1, 2, _, rfl, by omega, h.mb, by omega, by unfold maxLen; omega, rfl, rfl⟩⟩⟩,
   own_mono h.nodes (by omega), own_mono h.edges (by omega)⟩

/-- What an edge is behind the bend. -/
def E13b (n : Nat) (x : Int × Int) : Prop := 0 ≤ x.1 ∧ x.1 < n ∧ 0 ≤ x.2 ∧ x.2 ≤ n
/-- How memory stands behind the bend. -/
structure ChkW (w : World) (g : Nat) (AP AM AN AE : Option Addr) (cN cE : Nat) (ns : List GN) (es : List (Int × Int)) (W : World) : Prop where
  bel : Below w.heap.size w W
  gr : Gr W AP AM AN AE 3 2 cN cE 3 2 ns es
  gb : Blk W g 44 #[.slice AP 3 3, .slice AM 2 2, .slice AN ns.length cN, .slice AE es.length cE]
  hn : ns.length ≤ 8
  he : es.length ≤ 14
  qn : ∀ x ∈ ns, Q13 x
  qe : ∀ x ∈ es, E13b ns.length x

theorem flatE_set (f t x : Int) (es : List (Int × Int)) : (flatE ((f, t) :: es)).set 1 (.int .i64 x) = flatE ((f, x) :: es) := rfl
theorem blk_own_ne {w : World} {base e size n g : Nat} {v : Value} {xs : List Value} {t : TypeId} {cs : Array Value} (h : w.ownsRow base e size v n xs) (hb : Blk w g t cs) (hne : e ≠ t) : v.ownBlock ≠ some g := by
  intro he
  rcases h.2 with ⟨rfl, _⟩ | ⟨g', cap, cur, rfl, _, hh, _⟩
  · simp [Value.ownBlock] at he
  · have : g' = g := by simpa [Value.ownBlock] using he
    subst this
    unfold Blk at hb
    rw [hh] at hb
    injection hb with hb
    injection hb with _ ht
    exact hne ht
theorem gr_bend {w W : World} {AN : Option Addr} {b g cN cE : Nat} {ns : List GN} {f t : Int} {es : List (Int × Int)} {vs : Array Value} (h : AnyW w (.slice AN ns.length cN) (.slice (some ⟨b, 0, none⟩) (es.length + 1) cE) ns ((f, t) :: es) W) (hg : Blk W g 44 vs) (x : Int) :
    Gr (W.setCell ⟨b, 1, none⟩ (.int .i64 x)) (some ⟨w.heap.size + 1, 0, none⟩) (some ⟨w.heap.size + 1 + 1, 0, none⟩) AN (some ⟨b, 0, none⟩) 3 2 cN cE 3 2 ns ((f, x) :: es) ∧ Blk (W.setCell ⟨b, 1, none⟩ (.int .i64 x)) g 44 vs ∧ w.heap.size + 3 ≤ b := by
  have hbl : w.heap.size + 3 ≤ b := (h.edges.lt b rfl).1
  have hp : w.heap.size + 1 ≠ b := by omega
  have hm : w.heap.size + 1 + 1 ≠ b := by omega
  have hgb : g ≠ b := by
    intro e
    subst e
    exact blk_own_ne h.edges hg (by decide) rfl
  refine ⟨⟨⟨[.string ⟨#[112, 97]⟩, .string ⟨#[112, 98]⟩, .string ⟨#[112, 99]⟩], ⟨rfl, .inr ⟨w.heap.size + 1, 3, _, rfl, by omega, h.pb.far (by simpa using hp) _, by omega, by unfold maxLen; omega, rfl, rfl⟩⟩⟩,
   ⟨[.string ⟨#[109, 97]⟩, .string ⟨#[109, 98]⟩], ⟨rfl, .inr ⟨w.heap.size + 1 + 1, 2, _, rfl, by omega, h.mb.far (by simpa using hm) _, by omega, by unfold maxLen; omega, rfl, rfl⟩⟩⟩,
   own_mono (ownsRow_setCell_other h.nodes (by
     intro e
     exact own_ne h.nodes h.edges (by decide) b e rfl) _) (by omega), ?_⟩, hg.far (by simpa using hgb) _, hbl⟩
  have := (h.edges.stored 1 (.int .i64 x)).1
  exact own_mono this (by omega)
end Go.Proofs.Yteoioboiniealaa
