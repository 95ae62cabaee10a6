/- The contracts of space.New, Depth and Of. -/
import Derived.Test.YtgdkmipkgjkjjaaSpaceA
namespace Go.Proofs.Ytgdkmipkgjkjjaa
open Go.RowKit

def xmlS : ByteArray := ⟨#[120, 109, 108]⟩
def xmlU : ByteArray := ⟨#[104, 116, 116, 112, 58, 47, 47, 119, 119, 119, 46, 119, 51, 46, 111, 114, 103, 47, 88, 77, 76, 47, 49, 57, 57, 56, 47, 110, 97, 109, 101, 115, 112, 97, 99, 101]⟩
def newB : List Bind := [(xmlS, xmlU, 0), (⟨#[]⟩, ⟨#[]⟩, 0)]

theorem flatB_at : ∀ (bs : List Bind) (k : Nat) (h : k < bs.length), (flatB bs)[k * 3]? = some (.string bs[k].1) ∧ (flatB bs)[k * 3 + 1]? = some (.string bs[k].2.1) ∧ (flatB bs)[k * 3 + 2]? = some (.int .i64 bs[k].2.2)
  | (p, u, d) :: l, 0, _ => ⟨rfl, rfl, rfl⟩
  | (p, u, d) :: l, k + 1, h => by
    have := flatB_at l k (by simpa using h)
    rw [show (k + 1) * 3 = k * 3 + 3 by omega]
    simpa [flatB] using this
theorem Sp.lt {w : World} {base g A cap : Nat} {bs : List Bind} {d : Int} (h : Sp w base g A cap bs d) : g < w.heap.size ∧ A < w.heap.size ∧ base ≤ A := by
  refine ⟨?_, ?_⟩
  · rcases Nat.lt_or_ge g w.heap.size with hlt | hge
    · exact hlt
    · have := h.blk; rw [Array.getElem?_eq_none hge] at this; cases this
  · have := h.own.lt A rfl
    exact ⟨this.2, this.1⟩
theorem Sp.cells {w : World} {base g A cap : Nat} {bs : List Bind} {d : Int} (h : Sp w base g A cap bs d) :
    w.cell? ⟨g, 0, none⟩ = some (.slice (some ⟨A, 0, none⟩) bs.length cap) ∧ w.cell? ⟨g, 1, none⟩ = some (.int .i64 d) ∧ w.frozen? ⟨g, 0, none⟩ = false ∧ w.frozen? ⟨g, 1, none⟩ = false := by
  refine ⟨by rw [cell_of_row w g 0 _ _ _ h.blk]; rfl, by rw [cell_of_row w g 1 _ _ _ h.blk]; rfl, ?_, ?_⟩ <;> simp [World.frozen?, h.blk]
theorem Sp.bind {w : World} {base g A cap : Nat} {bs : List Bind} {d : Int} (h : Sp w base g A cap bs d) (k : Nat) (hk : k < bs.length) :
    w.cell? ⟨A, k * 3, none⟩ = some (.string bs[k].1) ∧ w.cell? ⟨A, k * 3 + 1, none⟩ = some (.string bs[k].2.1) ∧ w.cell? ⟨A, k * 3 + 2, none⟩ = some (.int .i64 bs[k].2.2) := by
  obtain ⟨h1, h2, h3⟩ := flatB_at bs k hk
  rw [h.own.cellAt (k * 3) (by omega), h.own.cellAt (k * 3 + 1) (by omega), h.own.cellAt (k * 3 + 2) (by omega)]
  exact ⟨h1, h2, h3⟩
theorem Sp.cap_le {w : World} {base g A cap : Nat} {bs : List Bind} {d : Int} (h : Sp w base g A cap bs d) : bs.length ≤ cap ∧ cap ≤ maxLen := by
  rcases h.own.2 with ⟨h0, _⟩ | ⟨g', cap', cur, hv, _, _, h1, h2, _⟩
  · cases h0
  · injection hv with _ _ hc
    subst hc
    exact ⟨h1, h2⟩

theorem new_any (w : World) :
    Calls Try.prog 35 #[] w fun e w' => e = .returned (.pointer (some ⟨w.heap.size + 1, 0, none⟩)) ∧ Below w.heap.size w w' ∧ Sp w' w.heap.size (w.heap.size + 1) w.heap.size 2 newB 0 ∧ w'.heap.size = w.heap.size + 2 := by
  go_enter Try.func35, Try.ntmps35
  go_wp2
  go_ret
  refine ⟨rfl, ((Below.refl _ _).alloc (Nat.le_refl _) _).alloc (by simp) _, ⟨?_, ?_, by omega, by omega⟩, by simp⟩
  · have := heap_alloc_new (w.alloc (.cells #[.string xmlS, .string xmlU, .int .i64 0, .string ⟨#[]⟩, .string ⟨#[]⟩, .int .i64 0] 62)) (.cells #[.slice (some ⟨w.heap.size, 0, none⟩) 2 2, .int .i64 0] 65)
    simp only [World.size_alloc] at this
    exact this
  · exact (World.ownsRow_lit (base := w.heap.size) w #[.string xmlS, .string xmlU, .int .i64 0, .string ⟨#[]⟩, .string ⟨#[]⟩, .int .i64 0] 2 (Nat.le_refl _) (by decide) rfl).alloc _

theorem depth_any {w : World} {base g A cap : Nat} {bs : List Bind} {d : Int} (h : Sp w base g A cap bs d) :
    Calls Try.prog 40 #[.pointer (some ⟨g, 0, none⟩)] w fun e w' => e = .returned (.int .i64 d) ∧ w = w' := by
  obtain ⟨_, hc, _, _⟩ := h.cells
  clear h
  go_enter Try.func40, Try.ntmps40
  go_wp2
  go_ret
  exact ⟨rfl, rfl⟩

/-- What a prefix stands for, among the first so many binds: the last one of them. -/
def ofK (bs : List Bind) (p : ByteArray) : Nat → Option ByteArray
  | 0 => none
  | k + 1 => if h : k < bs.length then (if (bs[k].1.toList == p.toList) = true then some bs[k].2.1 else ofK bs p k) else none
theorem ofK_hit {bs : List Bind} {p : ByteArray} {k : Nat} (h : k < bs.length) (hb : (bs[k].1.toList == p.toList) = true) : ofK bs p (k + 1) = some bs[k].2.1 := by
  rw [ofK, dif_pos h, if_pos hb]
theorem ofK_miss {bs : List Bind} {p : ByteArray} {k : Nat} (h : k < bs.length) (hb : (bs[k].1.toList == p.toList) = false) : ofK bs p (k + 1) = ofK bs p k := by
  rw [ofK, dif_pos h, if_neg (by rw [hb]; simp)]
def ofV : Option ByteArray → Value
  | some u => .tuple #[.string u, .bool true]
  | none => .tuple #[.string ⟨#[]⟩, .bool false]

theorem of_any {w : World} {base g A cap : Nat} {bs : List Bind} {d : Int} (h : Sp w base g A cap bs d) (p : ByteArray) :
    Calls Try.prog 39 #[.pointer (some ⟨g, 0, none⟩), .string p] w fun e w' => e = .returned (ofV (ofK bs p bs.length)) ∧ w = w' := by
  obtain ⟨hc, _, _, _⟩ := h.cells
  have hbind := Lib.hid h.bind
  obtain ⟨hl, hm⟩ := h.cap_le
  unfold maxLen at hm
  clear h
  go_enter Try.func39, Try.ntmps39
  go_wp2_with fail
  go_loop [6] (fun v => ∃ k : Nat, k ≤ bs.length ∧ v = .int .i64 ((k : Int) - 1) ∧ Hid (ofK bs p bs.length = ofK bs p k)) (fun v => (intOf v + 1).toNat)
  case atStart => exact ⟨bs.length, by omega, rfl, rfl⟩
  case round =>
    obtain ⟨k, hk, rfl, hinv⟩ := hrel
    cases k with
    | zero =>
      go_wp2_with fail
      go_ret2
      exact ⟨by rw [hinv.out]; rfl, rfl⟩
    | succ k =>
      obtain ⟨h1, h2, h3⟩ := hbind.out k hk
      have e : ((k + 1 : Nat) : Int) - 1 = k := by omega
      cases hb : (bs[k].1.toList == p.toList)
      · have hfin := hinv.out.trans (ofK_miss hk hb)
        have Hfin := Lib.hid hfin
        clear hfin
        go_wp2_with fail
        go_round
        case rel => exact ⟨k, by omega, by go_num, Hfin⟩
        case measure => simp [intOf] <;> omega
      · have hfin := hinv.out.trans (ofK_hit hk hb)
        have Hfin := Lib.hid hfin
        clear hfin
        go_wp2_with fail
        go_ret2
        exact ⟨by rw [Hfin.out]; rfl, rfl⟩
end Go.Proofs.Ytgdkmipkgjkjjaa
