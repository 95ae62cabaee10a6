/- The walk of the law RulesMade. -/
import Derived.Test.YtljmghaplnkohaaRulQ
import Derived.Test.YtljmghaplnkohaaGenM
import Derived.Test.YtljmghaplnkohaaRulD
import Derived.Test.YtljmghaplnkohaaArgs
namespace Go.Proofs.Ytljmghaplnkohaa
open Go.RowKit
attribute [local go_sem ↓] Go.wp_at_zero Go.wp_at_succ

theorem rulI_lv {d : DocD} {c : ChorD} {A1 B1 : Option Addr} {c1 k1 : Nat} {AP : Option Addr} {cP : Nat} {AF : Option Addr} {cF : Nat} {AI : Option Addr} {cI : Nat} {AS : Option Addr} {cS : Nat} {items : List ItemD} {seqs : List SeqD} (hp : ∀ y ∈ items, PlainI y) (h1 : items.length ≤ 100000) (h2 : seqs.length ≤ 100000) : LvOk d c A1 B1 c1 k1 AP cP AF cF AI cI AS cS items seqs :=
  level_step items seqs h1 h2 (fun y hy e => by have := (hp y hy).kind; omega)
theorem nest_lv {d : DocD} {c x : ChorD} {l : List ItemD} {call sub : ItemD} (h : NestW d c x l call sub) {A1 B1 : Option Addr} {c1 k1 : Nat} : ∀ z ∈ d.chors, ∀ AP cP AF cF AI cI AS cS, LvOk d z A1 B1 c1 k1 AP cP AF cF AI cI AS cS z.items z.seqs := fun z hz AP cP AF cF AI cI AS cS => by
  obtain ⟨l1, l2, l3, l4⟩ := h.lens
  have hd : d.chors = [c, x] := by rw [h.nest.eq]
  rw [hd] at hz
  simp only [List.mem_cons, List.not_mem_nil, or_false] at hz
  rcases hz with rfl | rfl
  · refine level_step _ _ (by omega) (by omega) (fun y hy e => ?_)
    rw [h.items] at hy
    rcases List.mem_append.1 hy with hy | hy
    · have := (h.plain y hy).kind; omega
    · simp only [List.mem_cons, List.not_mem_nil, or_false] at hy
      rcases hy with rfl | rfl
      · have := h.callK; omega
      · obtain ⟨a, b⟩ := h.subL
        exact rulI_lv h.subP (by omega) (by omega)
  · exact rulI_lv h.xP (by omega) (by omega)
theorem doc_lv (p : List Int) (hp : p.length ≤ maxLen) {A1 B1 : Option Addr} {c1 k1 : Nat} : ∀ z ∈ (gdocF p).chors, ∀ AP cP AF cF AI cI AS cS, LvOk (gdocF p) z A1 B1 c1 k1 AP cP AF cF AI cI AS cS z.items z.seqs := fun z hz AP cP AF cF AI cI AS cS => by
  have hf := gchor_facts p hp ⟨#[99]⟩ ⟨#[]⟩ (by decide)
  have hz' : z = gchorF p ⟨#[99]⟩ ⟨#[]⟩ := List.mem_singleton.1 hz
  rw [hz']
  exact rulI_lv (plain_chor p ⟨#[]⟩ (by decide)).items (by have := hf.2.2.2.1; omega) (by have := hf.2.2.2.2.1; omega)
theorem doc_fit (p : List Int) (hp : p.length ≤ maxLen) : IdsFit [] (idsD (gdocF p)) := by
  obtain ⟨c, hD⟩ := doc_i p hp
  exact ⟨fun a ha => by have := (hD.names a ha).2; omega, by have := hD.len; simp; omega⟩
set_option maxRecDepth 100000 in
set_option maxHeartbeats 8000000 in
theorem rulesMade_walk (A0 : Option Addr) (c0 : Nat) (x0 : List Int) (A1 : Option Addr) (c1 : Nat) (x1 : List Int) (w : World) (m0 : x0.length ≤ maxLen) (h0 : IntsAt w A0 x0) (m1 : x1.length ≤ maxLen) (h1 : IntsAt w A1 x1) :
    Calls Try.prog 7 #[.slice A0 x0.length c0, .slice A1 x1.length c1] w fun e w' => e = .returned (.bool true) ∧ Below w.heap.size w w' := by
  have hgen := nested_gen (cap := c0) (capq := c1) h0 m0 h1 m1
  obtain ⟨d, c, x, l, call, sub, hd, hW⟩ := nest_w x0 x1 m0 m1
  rw [← hd] at hgen
  have hdoc := fun U (k : Below w.heap.size w U) => doc_gen (cap := c0) (h0.below k) m0
  have HGEN := Lib.hid hgen
  have HDOC := Lib.hid hdoc
  have HW := Lib.hid hW
  have HM0 := Lib.hid m0
  clear hgen hdoc hW hd h0 m0 h1 m1
  go_enter Try.func7, Try.ntmps7
  go_wp2_with fail
  refine HGEN.out.mono ?_
  rintro e w1 ⟨A2, c2, B2, k2, rfl, hms, hch, hb1⟩
  have hcall := ruleCheck_any (w := w1) (d := d) (nest_lv HW.out) hms hch HW.out.nest.fit
  rw [nest_rules HW.out] at hcall
  have HCALL := Lib.hid hcall
  have HB1 := Lib.hid hb1
  clear hcall hms hch hb1 HGEN
  go_wp2_with fail
  refine HCALL.out.mono ?_
  rintro e w2 ⟨rfl, hb2⟩
  have HB2 := Lib.hid (HB1.out.trans (hb2.mono HB1.out.size))
  clear hb2 HCALL
  go_wp2_with fail
  refine (HDOC.out _ HB2.out).mono ?_
  rintro e w3 ⟨A3, c3, B3, k3, rfl, hms, hch, hb3⟩
  have hcall := ruleCheck_any (w := w3) (d := gdocF x0) (doc_lv x0 HM0.out) hms hch (doc_fit x0 HM0.out)
  rw [doc_rules x0 HM0.out] at hcall
  have HCALL := Lib.hid hcall
  have HB3 := Lib.hid (HB2.out.trans (hb3.mono HB2.out.size))
  clear hcall hms hch hb3 HDOC
  go_wp2_with fail
  refine HCALL.out.mono ?_
  rintro e w4 ⟨rfl, hb4⟩
  have HB4 := Lib.hid (HB3.out.trans (hb4.mono HB3.out.size))
  clear hb4 HCALL
  go_wp2_with fail
  refine (awake_any _).mono ?_
  rintro e w5 ⟨rfl, hb5⟩
  have HB5 := Lib.hid (HB4.out.trans (hb5.mono HB4.out.size))
  clear hb5
  go_wp2_with fail
  go_ret
  exact ⟨rfl, HB5.out⟩
end Go.Proofs.Ytljmghaplnkohaa
