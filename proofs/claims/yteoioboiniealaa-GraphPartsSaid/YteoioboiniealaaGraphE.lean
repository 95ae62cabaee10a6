/- The contract of graph.Start. -/
import Derived.Test.YteoioboiniealaaGraphD
namespace Go.Proofs.Yteoioboiniealaa
open Go.RowKit

theorem start1_any (x : GN) (w : World) :
    Calls Try.prog 57 #[.agg #[.int .i64 x.kind, .string x.id, .int .i64 x.src, .int .i64 x.dst, .int .i64 x.msg, .int .i64 x.reply, .bool x.again]] w fun e w' => e = .returned (.bool (x.kind == 1)) ∧ Below w.heap.size w w' := by
  go_enter Try.func57, Try.ntmps57
  go_wp2_with fail
  go_ret
  exact ⟨rfl, (Below.refl _ _).alloc (Nat.le_refl _) _⟩

/-- The place of the first one, from a number on, that has a property; -1: there is none. -/
def findFrom {α : Type} (p : α → Bool) : List α → Nat → Int
  | [], _ => -1
  | x :: l, k => if p x = true then (k : Int) else findFrom p l (k + 1)
def isStart (x : GN) : Bool := x.kind == 1

set_option maxHeartbeats 1000000 in
theorem findStart_any {w : World} {A : Option Addr} {c : Nat} {ns : List GN} (hN : w.ownsRow 0 55 7 (.slice A ns.length c) ns.length (flatN ns)) (hl : ns.length ≤ 1000000) :
    Calls Try.prog 56 #[.slice A ns.length c, .func (.func 57) #[] #[]] w fun e w' => e = .returned (.int .i64 (findFrom isStart ns 0)) ∧ Below w.heap.size w w' := by
  have HN := Lib.hid hN
  clear hN
  go_enter Try.func56, Try.ntmps56
  go_wp2_with fail
  go_loopw [8] (fun v wr => ∃ k : Nat, k ≤ ns.length ∧ v = .int .i64 k ∧ Hid (findFrom isStart ns 0 = findFrom isStart (ns.drop k) k) ∧ Below w.heap.size w wr) (fun v _ => ns.length - (intOf v).toNat)
  case atStart => exact ⟨0, Nat.zero_le _, rfl, rfl, Below.refl _ _⟩
  case round =>
    obtain ⟨k, hk, rfl, hinv, hB⟩ := hrel
    have HB := Lib.hid hB
    have hsz := hB.size
    clear hB
    by_cases hlt : k < ns.length
    · obtain ⟨b, rfl, hbl, _, hcell⟩ := own_at HN.out (by omega)
      have hat : ∀ j, j < 7 → wr.cell? ⟨b, k * 7 + j, none⟩ = (cellsN ns[k])[j]? := fun j hj => (HB.out.cell (p := ⟨b, k * 7 + j, none⟩) hbl).trans ((hcell _ (by omega)).trans (flatN_at ns k hlt j hj))
      have x0 : wr.cell? ⟨b, k * 7, none⟩ = some (.int .i64 ns[k].kind) := hat 0 (by omega)
      have x1 : wr.cell? ⟨b, k * 7 + 1, none⟩ = some (.string ns[k].id) := hat 1 (by omega)
      have x2 : wr.cell? ⟨b, k * 7 + 2, none⟩ = some (.int .i64 ns[k].src) := hat 2 (by omega)
      have x3 : wr.cell? ⟨b, k * 7 + 3, none⟩ = some (.int .i64 ns[k].dst) := hat 3 (by omega)
      have x4 : wr.cell? ⟨b, k * 7 + 4, none⟩ = some (.int .i64 ns[k].msg) := hat 4 (by omega)
      have x5 : wr.cell? ⟨b, k * 7 + 5, none⟩ = some (.int .i64 ns[k].reply) := hat 5 (by omega)
      have x6 : wr.cell? ⟨b, k * 7 + 6, none⟩ = some (.bool ns[k].again) := hat 6 (by omega)
      have hd : ns.drop k = ns[k] :: ns.drop (k + 1) := List.drop_eq_getElem_cons hlt
      have hi := hinv.out
      rw [hd, findFrom] at hi
      have hsp := fun W => start1_any ns[k] W
      have hpk : isStart ns[k] = (ns[k].kind == 1) := rfl
      clear hat hcell hd hinv
      generalize ns[k] = x at *
      cases ht : (x.kind == 1)
      · rw [ht] at hpk hsp
        rw [hpk, if_neg (by simp)] at hi
        have Hi := Lib.hid hi
        have Hsp := Lib.hid hsp
        clear hi hpk hsp ht
        go_wp2_with fail
        refine (Hsp.out _).mono ?_
        rintro e w1 ⟨rfl, hb1⟩
        go_wp2_with fail
        go_roundw
        case rel => exact ⟨k + 1, by omega, by go_num, Hi, HB.out.trans (hb1.mono hsz)⟩
        case measure => simp [intOf]; omega
      · rw [ht] at hpk hsp
        rw [hpk, if_pos rfl] at hi
        have Hi := Lib.hid hi
        have Hsp := Lib.hid hsp
        clear hi hpk hsp ht
        go_wp2_with fail
        refine (Hsp.out _).mono ?_
        rintro e w1 ⟨rfl, hb1⟩
        go_wp2_with fail
        go_ret
        exact ⟨by rw [Hi.out]; rfl, HB.out.trans (hb1.mono hsz)⟩
    · have hi := hinv.out
      rw [List.drop_eq_nil_of_le (by omega), findFrom] at hi
      have Hi := Lib.hid hi
      clear hi
      go_wp2_with fail
      go_ret
      exact ⟨by rw [Hi.out]; rfl, HB.out⟩

theorem gstart_any {w : World} {AP AM AN AE : Option Addr} {cP cM cN cE np nm : Nat} {ns : List GN} {es : List (Int × Int)} (h : Gr w AP AM AN AE cP cM cN cE np nm ns es) (hn : ns.length ≤ 1000000) :
    Calls Try.prog 31 #[.agg #[.slice AP np cP, .slice AM nm cM, .slice AN ns.length cN, .slice AE es.length cE]] w fun e w' => e = .returned (.int .i64 (findFrom isStart ns 0)) ∧ Below w.heap.size w w' := by
  have H := Lib.hid h
  clear h
  go_enter Try.func31, Try.ntmps31
  go_wp2_with fail
  refine (findStart_any (H.out.below ((Below.refl _ _).alloc (Nat.le_refl _) _)).nodes hn).mono ?_
  rintro e w1 ⟨rfl, hb1⟩
  go_wp2_with fail
  go_ret
  exact ⟨rfl, ((Below.refl _ _).alloc (Nat.le_refl _) _).trans (hb1.mono (by simp))⟩
end Go.Proofs.Yteoioboiniealaa
