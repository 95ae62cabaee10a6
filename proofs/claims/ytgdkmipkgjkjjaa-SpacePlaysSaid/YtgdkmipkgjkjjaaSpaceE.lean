/- The contract of Name; galliardlaw05.awake. -/
import Derived.Test.YtgdkmipkgjkjjaaSpaceD
namespace Go.Proofs.Ytgdkmipkgjkjjaa
open Go.RowKit

def nameR (ok : Bool) (o : Option ByteArray) (rest : ByteArray) : Value :=
  match ok, o with
  | true, some u => .tuple #[.string u, .string rest, .bool true]
  | _, _ => .tuple #[.string ⟨#[]⟩, .string ⟨#[]⟩, .bool false]

theorem spname_any {w : World} {base g A cap : Nat} {bs : List Bind} {d : Int} (h : Sp w base g A cap bs d) (X pre rest : ByteArray) (ok : Bool)
    (hs : ∀ w, Calls Try.prog 22 #[.string X] w fun e w' => e = .returned (.tuple #[.string pre, .string rest, .bool ok]) ∧ ∃ n, w' = w.drewN n) :
    Calls Try.prog 41 #[.pointer (some ⟨g, 0, none⟩), .string X] w fun e w' => e = .returned (nameR ok (ofK bs pre bs.length) rest) ∧ ∃ n, w' = w.drewN n := by
  have H := Lib.hid h
  have Hs := Lib.hid hs
  clear h hs
  cases ok
  · go_enter Try.func41, Try.ntmps41
    go_wp2_with fail
    refine (Hs.out _).mono ?_
    rintro e w' ⟨rfl, n, rfl⟩
    go_wp2_with fail
    go_ret3
    exact ⟨rfl, n, rfl⟩
  · cases ho : ofK bs pre bs.length with
    | none =>
      go_enter Try.func41, Try.ntmps41
      go_wp2_with fail
      refine (Hs.out _).mono ?_
      rintro e w' ⟨rfl, n, rfl⟩
      go_wp2_with fail
      refine (of_any (H.out.drewN n) pre).mono ?_
      rintro e w' ⟨rfl, rfl⟩
      rw [ho]
      simp only [ofV]
      go_wp2_with fail
      go_ret3
      exact ⟨rfl, n, rfl⟩
    | some u =>
      go_enter Try.func41, Try.ntmps41
      go_wp2_with fail
      refine (Hs.out _).mono ?_
      rintro e w' ⟨rfl, n, rfl⟩
      go_wp2_with fail
      refine (of_any (H.out.drewN n) pre).mono ?_
      rintro e w' ⟨rfl, rfl⟩
      rw [ho]
      simp only [ofV]
      go_wp2_with fail
      go_ret3
      exact ⟨rfl, n, rfl⟩

/-- The cells of attributes that lie in a new block. -/
theorem attrs_at (al : List (ByteArray × ByteArray)) : ∀ (k : Nat) (u : Value), (flatA al)[k]? = some u → (flatA al).toArray[k]? = some u := by
  intro k u h
  simpa using h

def atP : ByteArray := ⟨#[120, 109, 108, 110, 115, 58, 112]⟩
def oneU : ByteArray := ⟨#[117]⟩
theorem split_pa (w : World) : Calls Try.prog 22 #[.string ⟨#[112, 58, 97]⟩] w fun e w' => e = .returned (.tuple #[.string ⟨#[112]⟩, .string ⟨#[97]⟩, .bool true]) ∧ ∃ n, w' = w.drewN n := by
  have h := split_at ⟨#[112, 58, 97]⟩ 1 w (by decide) (by decide) (by decide +kernel) (by decide +kernel)
  have e1 : (ByteArray.mk #[112, 58, 97]).extract 0 1 = ⟨#[112]⟩ := by decide +kernel
  have e2 : (ByteArray.mk #[112, 58, 97]).extract (1 + 1) (ByteArray.mk #[112, 58, 97]).size = ⟨#[97]⟩ := by decide +kernel
  rw [e1, e2] at h
  have n1 : nameB (ByteArray.mk #[112]).data.toList = true := nameB_lit (by decide +kernel)
  have n2 : nameB (ByteArray.mk #[97]).data.toList = true := nameB_lit (by decide +kernel)
  rw [n1, n2] at h
  exact h

theorem space_awake (w : World) : Calls Try.prog 37 #[] w fun e w' => e = .returned (.bool true) ∧ Below w.heap.size w w' := by
  go_enter Try.func37, Try.ntmps37
  go_wp2_with fail
  refine (new_any _).mono ?_
  rintro e w1 ⟨rfl, hb1, hSp, hz1⟩
  have HSp := Lib.hid hSp
  have Hb1 := Lib.hid hb1
  have hzz : w.heap.size + 2 ≤ w1.heap.size := by omega
  have Hz := Lib.hid hz1
  clear hSp hb1 hz1
  go_wp2_with fail
  refine (enter_any (HSp.out.alloc _) (by omega) (by omega) (by decide) [(atP, oneU), (⟨#[98]⟩, ⟨#[99]⟩)] w1.heap.size 2 (flatA [(atP, oneU), (⟨#[98]⟩, ⟨#[99]⟩)]).toArray (heap_alloc_new w1 _) (attrs_at _) (by decide)).mono ?_
  rintro e w2 ⟨ov, A2, cap2, rfl, hSp2, hO2, hF2, hA2⟩
  have hE : enterF (0 + 1) [(atP, oneU), (⟨#[98]⟩, ⟨#[99]⟩)] newB [] = (newB ++ [(⟨#[112]⟩, oneU, 1)], [(⟨#[98]⟩, ⟨#[99]⟩)], 0) := by decide +kernel
  rw [hE] at hSp2 hO2
  rw [hE]
  obtain ⟨gO, cO, rfl, _, _⟩ := hO2.form (by decide)
  have HSp2 := Lib.hid hSp2
  have HF2 := Lib.hid hF2
  clear hE hSp2 hO2 hF2 hA2
  go_wp2_with fail
  refine (spname_any HSp2.out _ _ _ _ split_pa).mono ?_
  rintro e w' ⟨rfl, n, rfl⟩
  have hN : nameR true (ofK (newB ++ [(⟨#[112]⟩, oneU, 1)]) ⟨#[112]⟩ (newB ++ [((⟨#[112]⟩ : ByteArray), oneU, (1 : Int))]).length) ⟨#[97]⟩ = .tuple #[.string ⟨#[117]⟩, .string ⟨#[97]⟩, .bool true] := by
    have : ofK (newB ++ [(⟨#[112]⟩, oneU, 1)]) ⟨#[112]⟩ (newB ++ [((⟨#[112]⟩ : ByteArray), oneU, (1 : Int))]).length = some oneU := by decide +kernel
    rw [this]
    rfl
  rw [hN]
  clear hN
  go_wp2_with fail
  refine (depth_any (HSp2.out.drewN n)).mono ?_
  rintro e w' ⟨rfl, rfl⟩
  go_wp2_with fail
  go_ret
  have hb2 : Below w.heap.size w1 w2 := by
    have hl := HSp.out.lt
    have := Below.trans ((Below.refl w.heap.size w1).alloc (by omega) (.cells (flatA [(atP, oneU), (⟨#[98]⟩, ⟨#[99]⟩)]).toArray 47)) (HF2.out.to_below (B := w.heap.size) (by omega) (by omega) (by simp; omega))
    exact this
  have := Hb1.out.trans hb2
  exact ⟨rfl, ⟨this.os, this.tape, this.output, this.size, this.block⟩⟩
end Go.Proofs.Ytgdkmipkgjkjjaa
