/- The methods of no Spaces (nil); names with a prefix ahead. -/
import Derived.Test.YtgdkmipkgjkjjaaSpaceE
namespace Go.Proofs.Ytgdkmipkgjkjjaa
open Go.RowKit

theorem leave_nil (w : World) : Calls Try.prog 38 #[.pointer none] w fun e w' => e = .returned (.tuple #[]) ∧ w = w' := by
  go_enter Try.func38, Try.ntmps38
  go_wp2_with fail
  refine bodyPost_ret (results_none rfl _ _ _) rfl ?_
  exact ⟨rfl, rfl⟩
theorem enter_nil (w : World) : Calls Try.prog 36 #[.pointer none, .slice none 0 0] w fun e w' => e = .returned (.tuple #[.slice none 0 0, .int .i64 1]) ∧ w = w' := by
  go_enter Try.func36, Try.ntmps36
  go_wp2_with fail
  go_ret2
  exact ⟨rfl, rfl⟩
theorem of_nil (p : ByteArray) (w : World) : Calls Try.prog 39 #[.pointer none, .string p] w fun e w' => e = .returned (.tuple #[.string ⟨#[]⟩, .bool false]) ∧ w = w' := by
  go_enter Try.func39, Try.ntmps39
  go_wp2_with fail
  go_ret2
  exact ⟨rfl, rfl⟩
theorem depth_nil (w : World) : Calls Try.prog 40 #[.pointer none] w fun e w' => e = .returned (.int .i64 0) ∧ w = w' := by
  go_enter Try.func40, Try.ntmps40
  go_wp2_with fail
  go_ret
  exact ⟨rfl, rfl⟩

/-- A name with a letter and a colon ahead. -/
theorem split_pre (c : UInt8) (t : ByteArray) (w : World) (ht : t.size ≤ 20) (hn : nameB [c] = true) (hc : ((c.toNat : Nat) : Int) ≠ 58) :
    Calls Try.prog 22 #[.string (⟨#[c, 58]⟩ ++ t)] w fun e w' => e = .returned (.tuple #[.string ⟨#[c]⟩, .string t, .bool (nameB t.data.toList)]) ∧ ∃ n, w' = w.drewN n := by
  have hl : (ByteArray.mk #[c, 58] ++ t).data.toList = c :: 58 :: t.data.toList := by simp
  have hs : (ByteArray.mk #[c, 58] ++ t).size = t.size + 2 := by rw [Lib.size_eq, hl]; simp
  have h := split_at (ByteArray.mk #[c, 58] ++ t) 1 w (by unfold maxLen; omega) (by omega) (by rw [hl]; unfold Bl; rfl) (fun j hj => by
    have : j = 0 := by omega
    subst this
    rw [hl]
    unfold Bl
    exact hc)
  have e1 : (ByteArray.mk #[c, 58] ++ t).extract 0 1 = ⟨#[c]⟩ := by
    apply ByteArray.ext
    apply Array.toList_inj.1
    rw [Lib.extract_data, hl]
    rfl
  have e2 : (ByteArray.mk #[c, 58] ++ t).extract (1 + 1) (ByteArray.mk #[c, 58] ++ t).size = t := by
    apply ByteArray.ext
    apply Array.toList_inj.1
    rw [Lib.extract_data, hl, hs]
    show (t.data.toList).take (t.size + 2 - (1 + 1)) = _
    rw [List.take_of_length_le (by simp)]
  rw [e1, e2, show nameB (ByteArray.mk #[c]).data.toList = true from hn, Bool.true_and] at h
  exact h
end Go.Proofs.Ytgdkmipkgjkjjaa
