/- What follows what, with a path ahead; maps behind one another: the contracts of inline.seqs and inline.chain. -/
import Derived.Test.YteoioboiniealaaInlA
namespace Go.Proofs.Yteoioboiniealaa
open Go.RowKit

theorem rd_of_own {α : Type} {w : World} {base e sz c : Nat} {f : α → List Dat} {l : List α} {A : Option Addr} {xs : List Value} (ho : w.ownsRow base e sz (.slice A l.length c) l.length xs) (hl : RdL w (l.flatMap f) xs) : Rd w (datS e sz f l) (.slice A l.length c) :=
  rd_sl.2 ⟨A, c, xs, rfl, own_mono ho (by omega), hl⟩
/-- With a path ahead of ids. -/
def seqF (p : ByteArray) (x : SeqD) : SeqD := ⟨p ++ x.id, p ++ x.src, p ++ x.dst⟩
def seqV (x : SeqD) : List Value := [.string x.id, .string x.src, .string x.dst]
theorem rdl_seqV {w : World} : ∀ l : List SeqD, RdL w (l.flatMap seqC) (l.flatMap seqV)
  | [] => rdl_nil.2 rfl
  | x :: l => by
    rw [List.flatMap_cons, List.flatMap_cons]
    refine RdL.append ?_ (rdl_seqV l)
    exact rdl_cons.2 ⟨_, _, rfl, rd_str.2 rfl, rdl_cons.2 ⟨_, _, rfl, rd_str.2 rfl, rdl_cons.2 ⟨_, _, rfl, rd_str.2 rfl, rdl_nil.2 rfl⟩⟩⟩
theorem rdpl_seqV {S : Nat → Prop} {w : World} : ∀ l : List SeqD, RdPL S w (l.flatMap seqC) (l.flatMap seqV)
  | [] => rdpl_nil.2 rfl
  | x :: l => by
    rw [List.flatMap_cons, List.flatMap_cons]
    refine RdPL.append ?_ (rdpl_seqV l)
    exact rdpl_cons.2 ⟨_, _, rfl, rdp_str.2 rfl, rdpl_cons.2 ⟨_, _, rfl, rdp_str.2 rfl, rdpl_cons.2 ⟨_, _, rfl, rdp_str.2 rfl, rdpl_nil.2 rfl⟩⟩⟩
theorem Try.infoSeq : (Try.prog.info? 36).map (fun i => (i.zero, i.size, i.bytes)) = some (some (.agg #[.string ⟨#[]⟩, .string ⟨#[]⟩, .string ⟨#[]⟩]), 3, 48) := by kernel_rfl

/-- What holds at each round's head. -/
def InSeqs (w : World) (p : ByteArray) (l : List SeqD) (v iv : Value) (wr : World) : Prop :=
  ∃ k : Nat, k ≤ l.length ∧ iv = .int .i64 k ∧ wr.ownsRow w.heap.size 36 3 v k (((l.map (seqF p)).take k).flatMap seqV) ∧ Below w.heap.size w wr

set_option maxHeartbeats 1000000 in
theorem seqs_any {w : World} {v : Value} {l : List SeqD} (p : ByteArray) (hp : p.size ≤ 1000000) (hv : Rd w (seqsD l) v) (hl : l.length ≤ 1000000) (hsm : ∀ x ∈ l, x.id.size ≤ 1000000 ∧ x.src.size ≤ 1000000 ∧ x.dst.size ≤ 1000000) :
    Calls Try.prog 72 #[.string p, v] w fun e w' => ∃ r, e = .returned r ∧ RdP (fun b => w.heap.size ≤ b) w' (seqsD (l.map (seqF p))) r ∧ Below w.heap.size w w' := by
  obtain ⟨i0, hi0, hz0, hz1, hz2⟩ := info_parts Try.infoSeq
  obtain ⟨A, c, rfl, hlc, hcm, hat⟩ := rd_at seqC_len hv
  have HAT := Lib.hid hat
  have HSM := Lib.hid hsm
  clear hat hv hcm hsm
  go_enter Try.func72, Try.ntmps72
  go_wp2_with fail
  go_loopw [5, 10] (fun v iv wr => InSeqs w p l v iv wr) (fun _ iv _ => l.length - (intOf iv).toNat)
  case atStart => exact ⟨0, Nat.zero_le _, rfl, World.ownsRow_nil _ _ _ _, Below.refl _ _⟩
  case round =>
    obtain ⟨k, hk, rfl, hO, hB⟩ := hrel
    have HO := Lib.hid hO
    have HB := Lib.hid hB
    have hsz := hB.size
    clear hO hB
    by_cases hlt : k < l.length
    · obtain ⟨b, vs, rfl, hbl, _, hvs, hcell⟩ := HAT.out k hlt
      have hst : ((l.map (seqF p)).take (k + 1)).flatMap seqV = ((l.map (seqF p)).take k).flatMap seqV ++ seqV (seqF p l[k]) := by
        rw [List.take_succ_eq_append_getElem (by simpa using hlt), List.flatMap_append]
        simp
      have HST := Lib.hid hst
      clear hst
      obtain ⟨x, hx⟩ : ∃ x, x = l[k] := ⟨_, rfl⟩
      obtain ⟨s0, s1, s2⟩ := HSM.out l[k] (List.getElem_mem hlt)
      rw [← hx] at hvs HST s0 s1 s2
      clear hx
      obtain rfl := rd_seqC hvs
      have x0 : wr.cell? ⟨b, k * 3, none⟩ = some (.string x.id) := (HB.out.cell (p := ⟨b, k * 3, none⟩) hbl).trans (hcell 0 (by omega))
      have x1 : wr.cell? ⟨b, k * 3 + 1, none⟩ = some (.string x.src) := (HB.out.cell (p := ⟨b, k * 3 + 1, none⟩) hbl).trans (hcell 1 (by omega))
      have x2 : wr.cell? ⟨b, k * 3 + 2, none⟩ = some (.string x.dst) := (HB.out.cell (p := ⟨b, k * 3 + 2, none⟩) hbl).trans (hcell 2 (by omega))
      clear hcell hvs
      go_wp2_with (at_builtin; refine wpList_append_lies _ rfl (.tmp 14) (.tmp 28) _ rfl w.heap.size 36 i0 _ 3 48 Try.underlying26 hi0 hz0 hz1 hz2 rfl (by omega) _ _ _ rfl ((HO.out.alloc _).alloc _) ⟨wr.heap.size + 1, 0, none⟩ 1 1 [.string (p ++ x.id), .string (p ++ x.src), .string (p ++ x.dst)] rfl rfl (World.news_of_block (cs := #[.string (p ++ x.id), .string (p ++ x.src), .string (p ++ x.dst)]) (t := 36) (fr := (0, 0)) (by have := heap_alloc_new (wr.alloc (.cells #[.string x.id, .string x.src, .string x.dst] 36)) (.cells #[.string (p ++ x.id), .string (p ++ x.src), .string (p ++ x.dst)] 36); simpa using this)) (by simp [Value.oneCell']) (by omega) (by unfold maxLen; omega) (by omega) (by simp; omega) (wr.heap.size + 1 + 1) (by simp) ?_)
      intro gO capO w2 hown2 hgrow hat2 hlt3
      go_wp2_with fail
      go_roundw
      case rel =>
        refine ⟨k + 1, by omega, by go_num, ?_, ?_⟩
        · rw [HST.out]
          exact hown2
        · exact below_own (HB.out.alloc hsz _) (HO.out.alloc _) hgrow (by simp; omega)
      case measure => simp [intOf]; omega
    · have hfin : (l.map (seqF p)).take k = l.map (seqF p) := List.take_of_length_le (by simp; omega)
      have hkl : k = l.length := by omega
      have Hfin := Lib.hid hfin
      have HKL := Lib.hid hkl
      clear hfin hkl
      go_wp2_with fail
      go_ret
      have hO := HO.out
      rw [Hfin.out, HKL.out] at hO
      obtain ⟨A', c', rfl, _, _⟩ := own_slice hO
      refine ⟨_, rfl, ?_, HB.out⟩
      have hlen : (l.map (seqF p)).length = l.length := by simp
      rw [← hlen] at hO ⊢
      exact rdp_of_own hO (fun _ h => h) (rdpl_seqV _)
end Go.Proofs.Yteoioboiniealaa
