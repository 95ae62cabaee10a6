/- The walk of the law SpacePlays. -/
import Derived.Test.YtgdkmipkgjkjjaaSpaceH
import Derived.Test.YtgdkmipkgjkjjaaSpaceF
import Derived.Test.YtgdkmipkgjkjjaaSpaceArgs
import Derived.Deep.DeepCutAuto
import Derived.Deep.CutBlock
import Derived.Laws.BitsAllLaws
import Derived.Laws.BitsLemmas
namespace Go.Proofs.Ytgdkmipkgjkjjaa
open Go.RowKit

theorem Try.infoT3 : (Try.prog.info? 49).map (fun i => (i.zero, i.size, i.bytes)) = some (some (.agg #[.string ⟨#[]⟩, .string ⟨#[]⟩, .string ⟨#[]⟩]), 3, 48) := by kernel_rfl
theorem am (n : Int) (m : Nat) (hm : m < 9223372036854775808) : 0 ≤ bits BinOp.and IntKind.i64 n (m : Int) ∧ bits BinOp.and IntKind.i64 n (m : Int) ≤ m := by
  have e : bits BinOp.and IntKind.i64 n (m : Int) = IntKind.i64.wrap ((BitVec.ofInt 64 n &&& BitVec.ofInt 64 (m : Int)).toNat : Int) := rfl
  have h : (BitVec.ofInt 64 n &&& BitVec.ofInt 64 (m : Int)).toNat ≤ m := by
    rw [BitVec.toNat_and, ofInt_i64 m hm]
    exact Nat.and_le_right
  rw [e, IntKind.wrap_i64]
  omega
def noneS : ByteArray := ⟨#[110, 111, 110, 101]⟩
theorem noneS_list : noneS.toList = [110, 111, 110, 101] := by decide +kernel
theorem xmlU_list : xmlU.toList = [104, 116, 116, 112, 58, 47, 47, 119, 119, 119, 46, 119, 51, 46, 111, 114, 103, 47, 88, 77, 76, 47, 49, 57, 57, 56, 47, 110, 97, 109, 101, 115, 112, 97, 99, 101] := by decide +kernel
def uU (j : Nat) : ByteArray := ⟨#[117, UInt8.ofNat (97 + j)]⟩
theorem uU_at : ∀ j : Nat, j < 4 → (#[.string ⟨#[117, 97]⟩, .string ⟨#[117, 98]⟩, .string ⟨#[117, 99]⟩, .string ⟨#[117, 100]⟩] : Array Value)[j]? = some (.string (uU j))
  | 0, _ => rfl
  | 1, _ => rfl
  | 2, _ => rfl
  | 3, _ => rfl
/-- What a number tells. -/
def uOf (x : Int) : Option ByteArray := if bits BinOp.and IntKind.i64 x 7 < 4 then none else some (uU (bits BinOp.and IntKind.i64 x 7 - 4).toNat)
def segOf (x : ActD) : Seg := ⟨uOf x.p0, uOf x.p1, uOf x.p2⟩
def tS : Option ByteArray → ByteArray
  | none => noneS
  | some u => u
def goodU (t : Option ByteArray) : Prop := ∀ u, t = some u → u.toList.isEmpty = false ∧ (u.toList == noneS.toList) = false
def goodT (t : Option ByteArray) : Prop := ∀ u, t = some u → (u.toList == noneS.toList) = false
theorem uU_ok : ∀ j : Fin 4, (uU j.val).toList.isEmpty = false ∧ ((uU j.val).toList == noneS.toList) = false := by decide +kernel
theorem uOf_ok (x : Int) : goodU (uOf x) := by
  intro u hu
  have h : 0 ≤ bits BinOp.and IntKind.i64 x 7 ∧ bits BinOp.and IntKind.i64 x 7 ≤ 7 := am x 7 (by omega)
  unfold uOf at hu
  split at hu
  · cases hu
  · injection hu with hu
    subst hu
    exact uU_ok ⟨(bits BinOp.and IntKind.i64 x 7 - 4).toNat, by omega⟩
def GoodSegs (l : List Seg) : Prop := ∀ s ∈ l, goodU s.a ∧ goodU s.b ∧ goodU s.c
theorem segOf_ok (x : ActD) : goodU (segOf x).a ∧ goodU (segOf x).b ∧ goodU (segOf x).c := ⟨uOf_ok _, uOf_ok _, uOf_ok _⟩
theorem over_good {o t : Option ByteArray} (h : goodU o) (k : goodT t) : goodT (over o t) := by
  intro u hu
  cases o with
  | none => exact k u hu
  | some v => exact (h u hu).2
theorem top_good : ∀ l : List Seg, GoodSegs l → goodT (topOf l).a ∧ goodT (topOf l).b ∧ goodT (topOf l).c
  | [], _ => by
    refine ⟨fun u hu => ?_, fun u hu => (by cases hu), fun u hu => (by cases hu)⟩
    injection hu with hu
    subst hu
    decide +kernel
  | s :: l, h => by
    have ih := top_good l fun s' hs => h s' (by simp [hs])
    have hs := h s (by simp)
    exact ⟨over_good hs.1 ih.1, over_good hs.2.1 ih.2.1, over_good hs.2.2 ih.2.2⟩
def tripV (t : Top) : List Value := [.string (tS t.a), .string (tS t.b), .string (tS t.c)]
def rowM : List Seg → List Value
  | [] => tripV (topOf [])
  | s :: l => rowM l ++ tripV (topOf (s :: l))
theorem rowM_len : ∀ l : List Seg, (rowM l).length = (l.length + 1) * 3
  | [] => rfl
  | s :: l => by
    rw [rowM, List.length_append, rowM_len l, List.length_cons]
    simp [tripV]
    omega
theorem rowM_last (l : List Seg) (j : Nat) : (rowM l)[l.length * 3 + j]? = (tripV (topOf l))[j]? := by
  cases l with
  | nil => simp [rowM]
  | cons s l =>
    rw [rowM, List.getElem?_append_right (by rw [rowM_len, List.length_cons]; omega), rowM_len, List.length_cons]
    congr 1
    omega
theorem own_cut {w : World} {base e sz n c : Nat} {A : Option Addr} {xs ys : List Value} (h : w.ownsRow base e sz (.slice A (n + 1) c) (n + 1) (xs ++ ys)) (hx : xs.length = n * sz) : w.ownsRow base e sz (.slice A n c) n xs := by
  rcases h.2 with ⟨h0, _⟩ | ⟨g, cap, cur, hv, hb, hg, h1, h2, h3, h4⟩
  · cases h0
  · injection hv with e1 _ e3
    subst e1
    subst e3
    refine ⟨hx, .inr ⟨g, c, cur, rfl, hb, hg, by omega, h2, h3, ?_⟩⟩
    have h5 : (xs ++ ys).take (n * sz) = xs := by rw [List.take_append_of_le_length (by omega), List.take_of_length_le (by omega)]
    have := congrArg (List.take (n * sz)) h4
    rw [List.take_take, h5, Nat.min_eq_left (Nat.mul_le_mul_right _ (by omega))] at this
    exact this
theorem own_below {w w1 : World} {base e size n : Nat} {v : Value} {xs : List Value} (h : w.ownsRow base e size v n xs) (hb : Below w.heap.size w w1) : w1.ownsRow base e size v n xs :=
  h.kept (grown_of_below hb none) (by
    cases hv : v.ownBlock with
    | none => exact .inl rfl
    | some q => exact .inr (by simp))
theorem own_at {w : World} {base e size n : Nat} {xs : List Value} {A : Option Addr} {c : Nat} (h : w.ownsRow base e size (.slice A n c) n xs) (hn : 0 < n) : ∃ b, A = some ⟨b, 0, none⟩ ∧ b < w.heap.size ∧ base ≤ b ∧ ∀ j, j < n * size → w.cell? ⟨b, j, none⟩ = xs[j]? := by
  obtain ⟨g, cap, hv, hb, hlt⟩ := h.form hn
  injection hv with h1 _ h3
  subst h1
  subst h3
  exact ⟨g, rfl, hlt, hb, fun j hj => h.cellAt j hj⟩
/-- A block that is known whole. -/
def Blk (w : World) (g : Nat) (t : TypeId) (cs : Array Value) : Prop := w.heap[g]? = some (.cells cs t (0, 0))
section
variable {w w' : World} {g : Nat} {t : TypeId} {cs : Array Value}
theorem Blk.lt (h : Blk w g t cs) : g < w.heap.size := by
  rcases Nat.lt_or_ge g w.heap.size with hlt | hge
  · exact hlt
  · unfold Blk at h; rw [Array.getElem?_eq_none hge] at h; cases h
theorem Blk.cell (h : Blk w g t cs) (i : Nat) : w.cell? ⟨g, i, none⟩ = cs[i]? := cell_of_row w g i cs t (0, 0) h
theorem Blk.frozen (h : Blk w g t cs) (i : Nat) : w.frozen? ⟨g, i, none⟩ = false := by
  unfold Blk at h
  simp [World.frozen?, h]
theorem Blk.new (w : World) (t : TypeId) (cs : Array Value) : Blk (w.alloc (.cells cs t)) w.heap.size t cs := heap_alloc_new w _
theorem Blk.alloc (h : Blk w g t cs) (o : Obj) : Blk (w.alloc o) g t cs := (Below.heap_alloc w o g h.lt).trans h
theorem Blk.set_ (h : Blk w g t cs) (i : Nat) (u : Value) : Blk (w.setCell ⟨g, i, none⟩ u) g t (cs.setIfInBounds i u) := by
  unfold Blk at h ⊢
  simp [World.setCell, Array.getElem?_modify, h]
theorem Blk.grown {row : Option Nat} (h : Blk w g t cs) (hb : w.grownBy w' row) (hg : some g ≠ row) : Blk w' g t cs := (hb.block g h.lt hg).trans h
end
theorem blk_own_ne {w : World} {base e size n g : Nat} {v : Value} {xs : List Value} {t : TypeId} {cs : Array Value} (h : w.ownsRow base e size v n xs) (hb : Blk w g t cs) (hne : e ≠ t) : v.ownBlock ≠ some g := by
  intro he
  rcases h.2 with ⟨rfl, _⟩ | ⟨g', cap, cur, rfl, _, hh, _⟩
  · simp [Value.ownBlock] at he
  · have : g' = g := by simpa [Value.ownBlock] using he
    subst this
    unfold Blk at hb
    rw [hh] at hb
    injection hb with hb
    injection hb with _ ht
    exact hne ht
/-- How memory stands: what is known of prefixes, and the law's own list of it. -/
structure PS (w : World) (g : Nat) (v4 : Value) (l : List Seg) (W : World) : Prop where
  good : GoodSegs l
  sp : ∃ A cap, Sp W w.heap.size g A cap (bsOf l) l.length
  row : W.ownsRow w.heap.size 49 3 v4 (l.length + 1) (rowM l)
  bel : Below w.heap.size w W
theorem PS.below {w W W' : World} {g : Nat} {v4 : Value} {l : List Seg} (h : PS w g v4 l W) (hb : Below W.heap.size W W') : PS w g v4 l W' := by
  obtain ⟨A, cap, hs⟩ := h.sp
  exact ⟨h.good, ⟨A, cap, hs.below hb⟩, own_below h.row hb, h.bel.trans (hb.mono h.bel.size)⟩
/-- A Spaces has been written, with its row: the law's list is as it was. -/
theorem row_far {w W W' : World} {g A cap base : Nat} {v4 : Value} {bs : List Bind} {d : Int} {n : Nat} {xs : List Value} (hs : Sp W base g A cap bs d) (hr : W.ownsRow w.heap.size 49 3 v4 n xs) (hf : Far W W' g A) : W'.ownsRow w.heap.size 49 3 v4 n xs := by
  refine ⟨hr.1, hr.2.imp id fun ⟨q, c, cur, hv, hb, hg, r⟩ => ⟨q, c, cur, hv, hb, ?_, r⟩⟩
  have hq : q < W.heap.size := (hr.lt q (by rw [hv]; rfl)).2
  refine (hf.block q hq ?_ ?_).trans hg
  · intro e
    subst e
    have := hs.blk
    rw [hg] at this
    injection this with this
    injection this with _ ht
    exact absurd ht (by decide)
  · intro e
    exact own_ne hr hs.own (by decide) q (by rw [hv]; rfl) (by rw [e]; rfl)
/-- The first so many of what an element tells. -/
def segJ (s : Seg) (j : Nat) : Seg := ⟨if 0 < j then s.a else none, if 1 < j then s.b else none, if 2 < j then s.c else none⟩
def trC (s : Seg) (t : Top) (j : Nat) : Array Value := #[.string (tS (over (segJ s j).a t.a)), .string (tS (over (segJ s j).b t.b)), .string (tS (over (segJ s j).c t.c))]
theorem segA_len (s : Seg) : (segA s).length ≤ 4 := by
  have h : ∀ (n : ByteArray) (o : Option ByteArray), (optA n o).length ≤ 1 := fun n o => by cases o <;> simp [optA]
  have h1 := h atNo s.a
  have h2 := h atPp s.b
  have h3 := h atQq s.c
  simp only [segA, List.length_cons, List.length_append]
  omega

set_option maxRecDepth 100000 in
set_option maxHeartbeats 8000000 in
theorem spacePlays_walk (A0 : Option Addr) (c0 : Nat) (x0 : List ActD) (w : World) (m0 : x0.length ≤ maxLen) (h0 : ActsAt w A0 x0) :
    Calls Try.prog 10 #[.slice A0 x0.length c0] w fun e w' => e = .returned (.bool true) ∧ Below w.heap.size w w' := by
  obtain ⟨i0, hi0, hz0, hz1, hz2⟩ := info_parts Try.infoT3
  obtain ⟨j0, hj0, hy0, hy1, hy2⟩ := info_parts Try.infoAttr
  unfold maxLen at m0
  obtain ⟨n, hn⟩ : ∃ n, n = min x0.length 30 := ⟨_, rfl⟩
  have hn30 : n ≤ 30 := by omega
  have hnx : n ≤ x0.length := by omega
  have hne : n = x0.length ∨ n = 30 := by omega
  have H0 := Lib.hid h0
  have HNE := Lib.hid hne
  clear h0 hn hne
  go_enter Try.func10, Try.ntmps10
  go_wp2_with fail
  refine (new_any _).mono ?_
  rintro e w1 ⟨rfl, hb1, hSp, hz1'⟩
  obtain ⟨g, hg⟩ : ∃ g, g = w.heap.size + 1 := ⟨_, rfl⟩
  rw [← hg] at hSp
  rw [← hg]
  have hP0 : PS w g (.slice (some ⟨w1.heap.size, 0, none⟩) 1 1) [] (w1.alloc (.cells #[.string ⟨#[]⟩, .string ⟨#[110, 111, 110, 101]⟩, .string ⟨#[110, 111, 110, 101]⟩] 49)) :=
    ⟨fun s hs => by simp at hs, ⟨_, _, hSp.alloc _⟩, World.ownsRow_lit (base := w.heap.size) w1 #[.string ⟨#[]⟩, .string ⟨#[110, 111, 110, 101]⟩, .string ⟨#[110, 111, 110, 101]⟩] 1 hb1.size (by decide) rfl, hb1.alloc hb1.size _⟩
  have HP0 := Lib.hid hP0
  clear hSp hb1 hz1' hg hP0
  go_wp2_with fail
  go_loopw [4, 5] (fun v4 iv wr => ∃ (k : Nat) (l : List Seg), k ≤ n ∧ iv = .int .i64 k ∧ l.length ≤ k ∧ PS w g v4 l wr) (fun _ iv _ => n - (intOf iv).toNat)
  case atStart => exact ⟨0, [], Nat.zero_le _, rfl, Nat.le_refl _, HP0.out⟩
  case round =>
    obtain ⟨k, l, hk, rfl, hlk, hP⟩ := hrel
    obtain ⟨V, rfl⟩ : ∃ V, V = wr := ⟨_, rfl⟩
    have HP := Lib.hid hP
    have hszV := hP.bel.size
    obtain ⟨A4, c4, rfl, hcc, hc4⟩ := own_slice hP.row
    unfold maxLen at hc4
    by_cases hlt : k < n
    · obtain ⟨b, bo, rfl, hbl, hc0, hc1, hc2, hc3⟩ := H0.out k (by omega)
      obtain ⟨x, hx⟩ : ∃ x, x = x0[k]'(by omega) := ⟨_, rfl⟩
      rw [← hx] at hc0 hc1 hc2 hc3
      have HA0 := Lib.hid hc0
      have HA1 := Lib.hid hc1
      have HA2 := Lib.hid hc2
      have HA3 := Lib.hid hc3
      have HBL := Lib.hid hbl
      have y0 := (hP.bel.cell (p := ⟨b, bo + k * 4, none⟩) hbl).trans hc0
      have hltI : (k : Int) < (x0.length : Int) := by omega
      have hlt30 : (k : Int) < 30 := by omega
      clear hc0 hc1 hc2 hc3 hx hP hbl
      go_upto_if 38 with fail
      go_cut [4] (fun v wx => ∃ l2 : List Seg, l2.length ≤ k + 1 ∧ PS w g v l2 wx)
      case first =>
        cases hwt : (bits BinOp.and IntKind.i64 x.what 3 == 3) with
        | true =>
          cases l with
          | nil =>
            obtain ⟨A, cap, hS⟩ := HP.out.sp
            have hlv := leave_zero hS
            have HLV := Lib.hid hlv
            clear hS hlv
            go_wp2_with fail
            refine HLV.out.mono ?_
            rintro e w2 ⟨rfl, rfl⟩
            go_wp2_with fail
            go_meet
            case rel => exact ⟨[], by simp, HP.out⟩
          | cons s l =>
            obtain ⟨A, cap, hS⟩ := HP.out.sp
            have hll : l.length + 1 ≤ k := by simpa using hlk
            have hlen := bsOf_len (s :: l)
            have hlv := leave_any (bs := bsOf l) (cs := segB s ((l.length : Int) + 1)) (d := (l.length : Int) + 1) (by simpa [bsOf] using hS) (by omega) (by omega) (by omega) (fun b hb => segB_depth hb) (fun b hb => by have := bsOf_depth l b hb; omega) (by simp only [bsOf, List.length_cons] at hlen; omega)
            have HLV := Lib.hid hlv
            have HS := Lib.hid hS
            clear hS hlv hlen
            go_wp2_with fail
            refine HLV.out.mono ?_
            rintro e w2 ⟨rfl, hS2, hF2⟩
            have hr2 := row_far HS.out HP.out.row hF2
            have hr3 := own_cut (xs := rowM l) (ys := tripV (topOf (s :: l))) (by simpa [rowM] using hr2) (rowM_len l)
            have hg1 := HS.out.hg
            have hA1 := HS.out.lt.2.2
            have HN : Hid (PS w g (.slice A4 (l.length + 1) c4) l w2) := Lib.hid ⟨fun s' hs => HP.out.good s' (by simp [hs]), ⟨A, cap, by rwa [show (l.length : Int) + 1 - 1 = l.length by omega] at hS2⟩, hr3, HP.out.bel.trans (hF2.to_below (B := w.heap.size) hg1 hA1 hszV)⟩
            have hlc : (l.length : Int) + 1 + 1 ≤ c4 := by have h := hcc; simp only [List.length_cons] at h; omega
            clear hcc
            clear hS2 hF2 hr2 hr3
            go_wp2_with fail
            go_meet
            case rel => exact ⟨l, by omega, HN.out⟩
        | false =>
          obtain ⟨s, hs⟩ : ∃ s, s = segOf x := ⟨_, rfl⟩
          obtain ⟨t, ht⟩ : ∃ t, t = topOf l := ⟨_, rfl⟩
          have HT := Lib.hid ht
          have HSX := Lib.hid hs
          obtain ⟨b4, rfl, hb4, _, hc4c⟩ := own_at HP.out.row (by omega)
          have hta : V.cell? ⟨b4, l.length * 3, none⟩ = some (.string (tS t.a)) := by rw [hc4c _ (by omega), ht]; exact rowM_last l 0
          have htb : V.cell? ⟨b4, l.length * 3 + 1, none⟩ = some (.string (tS t.b)) := by rw [hc4c _ (by omega), ht]; exact rowM_last l 1
          have htc : V.cell? ⟨b4, l.length * 3 + 2, none⟩ = some (.string (tS t.c)) := by rw [hc4c _ (by omega), ht]; exact rowM_last l 2
          have HBV := Lib.hid (Nat.lt_of_lt_of_le HBL.out hszV)
          have HY1 := Lib.hid ((HP.out.bel.cell (p := ⟨b, bo + k * 4 + 1, none⟩) HBL.out).trans HA1.out)
          have HY2 := Lib.hid ((HP.out.bel.cell (p := ⟨b, bo + k * 4 + 2, none⟩) HBL.out).trans HA2.out)
          have HY3 := Lib.hid ((HP.out.bel.cell (p := ⟨b, bo + k * 4 + 3, none⟩) HBL.out).trans HA3.out)
          obtain ⟨W1, hW1⟩ : ∃ U, U = (V.alloc (.cells #[.string ⟨#[120]⟩, .string ⟨#[121]⟩] 47)).alloc (.cells #[.string (tS t.a), .string (tS t.b), .string (tS t.c)] 49) := ⟨_, rfl⟩
          obtain ⟨gB, hgB⟩ : ∃ q, q = V.heap.size + 1 := ⟨_, rfl⟩
          have hI1 : Below V.heap.size V W1 := by rw [hW1]; exact ((Below.refl _ _).alloc (Nat.le_refl _) _).alloc (by simp) _
          have hI2 : Blk W1 gB 49 (trC s t 0) := by
            have e0 : trC s t 0 = #[.string (tS t.a), .string (tS t.b), .string (tS t.c)] := by unfold trC segJ; simp [over]
            rw [hW1, hgB, e0]
            have := Blk.new (V.alloc (.cells #[.string ⟨#[120]⟩, .string ⟨#[121]⟩] 47)) 49 #[.string (tS t.a), .string (tS t.b), .string (tS t.c)]
            simpa using this
          have hI3 : W1.ownsRow V.heap.size 47 2 (.slice (some ⟨V.heap.size, 0, none⟩) 1 1) (segA (segJ s 0)).length (flatA (segA (segJ s 0))) := by
            rw [hW1]
            exact (World.ownsRow_lit (base := V.heap.size) V #[.string ⟨#[120]⟩, .string ⟨#[121]⟩] 1 (Nat.le_refl _) (by decide) rfl).alloc _
          have HI1 := Lib.hid hI1
          have HI2 := Lib.hid hI2
          have HI3 := Lib.hid hI3
          have HW1 := Lib.hid hW1.symm
          have HGB := Lib.hid hgB.symm
          have hgBV : V.heap.size ≤ gB := by omega
          have hcl : (l.length : Int) + 1 ≤ c4 := by omega
          clear hs ht hc4c hW1 hI1 hI2 hI3 hgB
          go_upto_region 11 with fail
          rw [HW1.out, HGB.out]
          clear hta htb htc
          go_wp2_with fail
          go_loopw [7, 8] (fun v7 jv wx => ∃ j : Nat, j ≤ 3 ∧ jv = .int .i64 j ∧ Below V.heap.size V wx ∧ Blk wx gB 49 (trC s t j) ∧ wx.ownsRow V.heap.size 47 2 v7 (segA (segJ s j)).length (flatA (segA (segJ s j)))) (fun _ jv _ => 3 - (intOf jv).toNat)
          case atStart => exact ⟨0, by omega, rfl, HI1.out, HI2.out, HI3.out⟩
          case round =>
            clear HI1 HI2 HI3 HW1 HGB
            obtain ⟨j, hj, rfl, hB, hK, hO⟩ := hrel
            have HB := Lib.hid hB
            have hszB := hB.size
            obtain ⟨A7, c7, rfl, _, _⟩ := own_slice hO
            have HK := Lib.hid hK
            have HO := Lib.hid hO
            rcases (show j = 0 ∨ j = 1 ∨ j = 2 ∨ j = 3 by omega) with hj0' | hj1' | hj2' | hj3
            · subst hj0'
              have yp := (hB.cell (p := ⟨b, bo + k * 4 + 1, none⟩) HBV.out).trans HY1.out
              obtain ⟨v, hv⟩ : ∃ v, v = bits BinOp.and IntKind.i64 x.p0 7 := ⟨_, rfl⟩
              have hv7 : 0 ≤ v ∧ v ≤ 7 := by rw [hv]; exact am x.p0 7 (by omega)
              have hsv : s.a = if v < 4 then none else some (uU (v - 4).toNat) := by rw [HSX.out, hv]; rfl
              have hvb : bits BinOp.and IntKind.i64 x.p0 7 = v := hv.symm
              clear hv
              by_cases hv4 : v < 4
              · have hsn : s.a = none := by rw [hsv, if_pos hv4]
                have hseg : segJ s 1 = segJ s 0 := by unfold segJ; simp [hsn]
                have HTRS : Hid (trC s t 1 = trC s t 0) := Lib.hid (by unfold trC; rw [hseg])
                have HSEG := Lib.hid hseg
                clear hsn hseg hsv hB hK hO
                go_wp2_with fail
                go_roundw
                case rel => exact ⟨1, by omega, by go_num, HB.out, by rw [HTRS.out]; exact HK.out, by rw [HSEG.out]; exact HO.out⟩
                case measure => simp [intOf]
              · obtain ⟨jj, hjj⟩ : ∃ jj : Nat, v = 4 + (jj : Int) := ⟨(v - 4).toNat, by omega⟩
                have hj4 : jj < 4 := by omega
                have hsu : s.a = some (uU jj) := by rw [hsv, if_neg hv4, hjj]; congr 2; omega
                obtain ⟨u, hu⟩ : ∃ u, u = uU jj := ⟨_, rfl⟩
                rw [← hu] at hsu
                have hua : ∀ U : World, (U.alloc (.cells #[.string ⟨#[117, 97]⟩, .string ⟨#[117, 98]⟩, .string ⟨#[117, 99]⟩, .string ⟨#[117, 100]⟩] 9)).cell? ⟨U.heap.size, jj, none⟩ = some (.string u) := fun U => by rw [(Blk.new U _ _).cell, hu]; exact uU_at jj hj4
                have hsegA : segA (segJ s 1) = segA (segJ s 0) ++ [(⟨#[120, 109, 108, 110, 115]⟩, u)] := by unfold segA segJ; simp [hsu, optA, atNo]
                have hsegL : (segA (segJ s 1)).length = (segA (segJ s 0)).length + 1 := by rw [hsegA]; simp
                have hflat : flatA (segA (segJ s 1)) = flatA (segA (segJ s 0)) ++ [.string ⟨#[120, 109, 108, 110, 115]⟩, .string u] := by rw [hsegA, flatA_append]; rfl
                have htrip : (trC s t 0).setIfInBounds 0 (.string u) = trC s t 1 := by unfold trC segJ; simp [hsu, over, tS]
                obtain ⟨L, hL⟩ : ∃ L, L = (segA (segJ s 0)).length := ⟨_, rfl⟩
                obtain ⟨xs, hxs⟩ : ∃ xs, xs = flatA (segA (segJ s 0)) := ⟨_, rfl⟩
                have hL4 : L ≤ 4 := by rw [hL]; exact segA_len _
                have z0 : wr.cell? ⟨gB, 0, none⟩ = (trC s t 0)[0]? := hK.cell 0
                have z1 : ∃ zz, (trC s t 0)[0]? = some zz := ⟨_, rfl⟩
                obtain ⟨zz, hzz⟩ := z1
                rw [hzz] at z0
                have zf := hK.frozen 0
                have hgl := hK.lt
                rw [← hL, ← hxs] at hO HO
                rw [← hL] at hsegL
                rw [← hL]
                rw [← hxs] at hflat
                have hne := blk_own_ne hO hK (by decide)
                have hnew := fun (U : World) => heap_alloc_new U (.cells #[.string ⟨#[120, 109, 108, 110, 115]⟩, .string u] 47)
                have HNE := Lib.hid hne
                have HLL := Lib.hid hsegL
                have HFL := Lib.hid hflat
                have HTR := Lib.hid htrip
                have HNEW := Lib.hid hnew
                have hjs : (4 : Int) + (jj : Int) - 4 = (jj : Int) := by omega
                subst hjj
                clear hsv hu hsegA hsegL hflat htrip hL hxs hzz hne hnew hsu
                have hOd := ((((ownsRow_setCell_other (a := ⟨gB, 0, none⟩) hO HNE.out (.string u)).alloc (.cells #[.string ⟨#[117, 97]⟩, .string ⟨#[117, 98]⟩, .string ⟨#[117, 99]⟩, .string ⟨#[117, 100]⟩] 9)).alloc (.cells #[.string ⟨#[120, 109, 108, 110, 115]⟩, .string ⟨#[120, 109, 108, 110, 115, 58, 112]⟩, .string ⟨#[120, 109, 108, 110, 115, 58, 113]⟩] 9)).alloc (.cells #[.string ⟨#[120, 109, 108, 110, 115]⟩, .string u] 47))
                have HOD := Lib.hid hOd
                have hBd : Below V.heap.size V ((((wr.setCell ⟨gB, 0, none⟩ (.string u)).alloc (.cells #[.string ⟨#[117, 97]⟩, .string ⟨#[117, 98]⟩, .string ⟨#[117, 99]⟩, .string ⟨#[117, 100]⟩] 9)).alloc (.cells #[.string ⟨#[120, 109, 108, 110, 115]⟩, .string ⟨#[120, 109, 108, 110, 115, 58, 112]⟩, .string ⟨#[120, 109, 108, 110, 115, 58, 113]⟩] 9)).alloc (.cells #[.string ⟨#[120, 109, 108, 110, 115]⟩, .string u] 47)) := (((hB.setCell (p := ⟨gB, 0, none⟩) (by simp; omega) _).alloc (by simp; omega) _).alloc (by simp; omega) _).alloc (by simp; omega) _
                have HBD := Lib.hid hBd
                have hKd := (((hK.set_ 0 (.string u)).alloc (.cells #[.string ⟨#[117, 97]⟩, .string ⟨#[117, 98]⟩, .string ⟨#[117, 99]⟩, .string ⟨#[117, 100]⟩] 9)).alloc (.cells #[.string ⟨#[120, 109, 108, 110, 115]⟩, .string ⟨#[120, 109, 108, 110, 115, 58, 112]⟩, .string ⟨#[120, 109, 108, 110, 115, 58, 113]⟩] 9)).alloc (.cells #[.string ⟨#[120, 109, 108, 110, 115]⟩, .string u] 47)
                rw [HTR.out] at hKd
                have HKD := Lib.hid hKd
                clear hOd hBd hKd hB hK hO
                go_wp2_with (at_builtin; refine wpList_append_lies _ rfl (.tmp 79) (.tmp 86) _ rfl V.heap.size 47 j0 _ 2 32 Try.underlying43 hj0 hy0 hy1 hy2 rfl (by omega) _ _ _ rfl HOD.out ⟨wr.heap.size + 1 + 1, 0, none⟩ 1 1 [.string ⟨#[120, 109, 108, 110, 115]⟩, .string u] rfl rfl (World.news_of_block (cs := #[.string ⟨#[120, 109, 108, 110, 115]⟩, .string u]) (t := 47) (fr := (0, 0)) (by have := HNEW.out (((wr.setCell ⟨gB, 0, none⟩ (.string u)).alloc (.cells #[.string ⟨#[117, 97]⟩, .string ⟨#[117, 98]⟩, .string ⟨#[117, 99]⟩, .string ⟨#[117, 100]⟩] 9)).alloc (.cells #[.string ⟨#[120, 109, 108, 110, 115]⟩, .string ⟨#[120, 109, 108, 110, 115, 58, 112]⟩, .string ⟨#[120, 109, 108, 110, 115, 58, 113]⟩] 9)); simpa using this)) (by simp [Value.oneCell']) (by omega) (by unfold maxLen; omega) (by omega) (by simp; omega) _ rfl ?_)
                intro gO capO w2 hown2 hgrow2 hat2 hlt2
                have HN1 : Hid (Below V.heap.size V w2) := Lib.hid (HBD.out.grown hgrow2 HBD.out.size (fun q hq => (HOD.out.lt q hq).1))
                have HN2 : Hid (Blk w2 gB 49 (trC s t 1)) := Lib.hid (HKD.out.grown hgrow2 (fun e => blk_own_ne HOD.out HKD.out (by decide) e.symm))
                have HN3 : Hid (w2.ownsRow V.heap.size 47 2 (.slice (some ⟨gO, 0, none⟩) (L + 1) capO) (L + 1) (xs ++ [.string ⟨#[120, 109, 108, 110, 115]⟩, .string u])) := Lib.hid hown2
                clear hown2 hgrow2 hat2
                go_wp2_with fail
                go_roundw
                case rel => exact ⟨1, by omega, by go_num, HN1.out, HN2.out, by rw [HLL.out, HFL.out]; exact HN3.out⟩
                case measure => simp [intOf]
            · subst hj1'
              have yp := (hB.cell (p := ⟨b, bo + k * 4 + 2, none⟩) HBV.out).trans HY2.out
              obtain ⟨v, hv⟩ : ∃ v, v = bits BinOp.and IntKind.i64 x.p1 7 := ⟨_, rfl⟩
              have hv7 : 0 ≤ v ∧ v ≤ 7 := by rw [hv]; exact am x.p1 7 (by omega)
              have hsv : s.b = if v < 4 then none else some (uU (v - 4).toNat) := by rw [HSX.out, hv]; rfl
              have hvb : bits BinOp.and IntKind.i64 x.p1 7 = v := hv.symm
              clear hv
              by_cases hv4 : v < 4
              · have hsn : s.b = none := by rw [hsv, if_pos hv4]
                have hseg : segJ s 2 = segJ s 1 := by unfold segJ; simp [hsn]
                have HTRS : Hid (trC s t 2 = trC s t 1) := Lib.hid (by unfold trC; rw [hseg])
                have HSEG := Lib.hid hseg
                clear hsn hseg hsv hB hK hO
                go_wp2_with fail
                go_roundw
                case rel => exact ⟨2, by omega, by go_num, HB.out, by rw [HTRS.out]; exact HK.out, by rw [HSEG.out]; exact HO.out⟩
                case measure => simp [intOf]
              · obtain ⟨jj, hjj⟩ : ∃ jj : Nat, v = 4 + (jj : Int) := ⟨(v - 4).toNat, by omega⟩
                have hj4 : jj < 4 := by omega
                have hsu : s.b = some (uU jj) := by rw [hsv, if_neg hv4, hjj]; congr 2; omega
                obtain ⟨u, hu⟩ : ∃ u, u = uU jj := ⟨_, rfl⟩
                rw [← hu] at hsu
                have hua : ∀ U : World, (U.alloc (.cells #[.string ⟨#[117, 97]⟩, .string ⟨#[117, 98]⟩, .string ⟨#[117, 99]⟩, .string ⟨#[117, 100]⟩] 9)).cell? ⟨U.heap.size, jj, none⟩ = some (.string u) := fun U => by rw [(Blk.new U _ _).cell, hu]; exact uU_at jj hj4
                have hsegA : segA (segJ s 2) = segA (segJ s 1) ++ [(⟨#[120, 109, 108, 110, 115, 58, 112]⟩, u)] := by unfold segA segJ; simp [hsu, optA, atPp]
                have hsegL : (segA (segJ s 2)).length = (segA (segJ s 1)).length + 1 := by rw [hsegA]; simp
                have hflat : flatA (segA (segJ s 2)) = flatA (segA (segJ s 1)) ++ [.string ⟨#[120, 109, 108, 110, 115, 58, 112]⟩, .string u] := by rw [hsegA, flatA_append]; rfl
                have htrip : (trC s t 1).setIfInBounds 1 (.string u) = trC s t 2 := by unfold trC segJ; simp [hsu, over, tS]
                obtain ⟨L, hL⟩ : ∃ L, L = (segA (segJ s 1)).length := ⟨_, rfl⟩
                obtain ⟨xs, hxs⟩ : ∃ xs, xs = flatA (segA (segJ s 1)) := ⟨_, rfl⟩
                have hL4 : L ≤ 4 := by rw [hL]; exact segA_len _
                have z0 : wr.cell? ⟨gB, 1, none⟩ = (trC s t 1)[1]? := hK.cell 1
                have z1 : ∃ zz, (trC s t 1)[1]? = some zz := ⟨_, rfl⟩
                obtain ⟨zz, hzz⟩ := z1
                rw [hzz] at z0
                have zf := hK.frozen 1
                have hgl := hK.lt
                rw [← hL, ← hxs] at hO HO
                rw [← hL] at hsegL
                rw [← hL]
                rw [← hxs] at hflat
                have hne := blk_own_ne hO hK (by decide)
                have hnew := fun (U : World) => heap_alloc_new U (.cells #[.string ⟨#[120, 109, 108, 110, 115, 58, 112]⟩, .string u] 47)
                have HNE := Lib.hid hne
                have HLL := Lib.hid hsegL
                have HFL := Lib.hid hflat
                have HTR := Lib.hid htrip
                have HNEW := Lib.hid hnew
                have hjs : (4 : Int) + (jj : Int) - 4 = (jj : Int) := by omega
                subst hjj
                clear hsv hu hsegA hsegL hflat htrip hL hxs hzz hne hnew hsu
                have hOd := ((((ownsRow_setCell_other (a := ⟨gB, 1, none⟩) hO HNE.out (.string u)).alloc (.cells #[.string ⟨#[117, 97]⟩, .string ⟨#[117, 98]⟩, .string ⟨#[117, 99]⟩, .string ⟨#[117, 100]⟩] 9)).alloc (.cells #[.string ⟨#[120, 109, 108, 110, 115]⟩, .string ⟨#[120, 109, 108, 110, 115, 58, 112]⟩, .string ⟨#[120, 109, 108, 110, 115, 58, 113]⟩] 9)).alloc (.cells #[.string ⟨#[120, 109, 108, 110, 115, 58, 112]⟩, .string u] 47))
                have HOD := Lib.hid hOd
                have hBd : Below V.heap.size V ((((wr.setCell ⟨gB, 1, none⟩ (.string u)).alloc (.cells #[.string ⟨#[117, 97]⟩, .string ⟨#[117, 98]⟩, .string ⟨#[117, 99]⟩, .string ⟨#[117, 100]⟩] 9)).alloc (.cells #[.string ⟨#[120, 109, 108, 110, 115]⟩, .string ⟨#[120, 109, 108, 110, 115, 58, 112]⟩, .string ⟨#[120, 109, 108, 110, 115, 58, 113]⟩] 9)).alloc (.cells #[.string ⟨#[120, 109, 108, 110, 115, 58, 112]⟩, .string u] 47)) := (((hB.setCell (p := ⟨gB, 1, none⟩) (by simp; omega) _).alloc (by simp; omega) _).alloc (by simp; omega) _).alloc (by simp; omega) _
                have HBD := Lib.hid hBd
                have hKd := (((hK.set_ 1 (.string u)).alloc (.cells #[.string ⟨#[117, 97]⟩, .string ⟨#[117, 98]⟩, .string ⟨#[117, 99]⟩, .string ⟨#[117, 100]⟩] 9)).alloc (.cells #[.string ⟨#[120, 109, 108, 110, 115]⟩, .string ⟨#[120, 109, 108, 110, 115, 58, 112]⟩, .string ⟨#[120, 109, 108, 110, 115, 58, 113]⟩] 9)).alloc (.cells #[.string ⟨#[120, 109, 108, 110, 115, 58, 112]⟩, .string u] 47)
                rw [HTR.out] at hKd
                have HKD := Lib.hid hKd
                clear hOd hBd hKd hB hK hO
                go_wp2_with (at_builtin; refine wpList_append_lies _ rfl (.tmp 79) (.tmp 86) _ rfl V.heap.size 47 j0 _ 2 32 Try.underlying43 hj0 hy0 hy1 hy2 rfl (by omega) _ _ _ rfl HOD.out ⟨wr.heap.size + 1 + 1, 0, none⟩ 1 1 [.string ⟨#[120, 109, 108, 110, 115, 58, 112]⟩, .string u] rfl rfl (World.news_of_block (cs := #[.string ⟨#[120, 109, 108, 110, 115, 58, 112]⟩, .string u]) (t := 47) (fr := (0, 0)) (by have := HNEW.out (((wr.setCell ⟨gB, 1, none⟩ (.string u)).alloc (.cells #[.string ⟨#[117, 97]⟩, .string ⟨#[117, 98]⟩, .string ⟨#[117, 99]⟩, .string ⟨#[117, 100]⟩] 9)).alloc (.cells #[.string ⟨#[120, 109, 108, 110, 115]⟩, .string ⟨#[120, 109, 108, 110, 115, 58, 112]⟩, .string ⟨#[120, 109, 108, 110, 115, 58, 113]⟩] 9)); simpa using this)) (by simp [Value.oneCell']) (by omega) (by unfold maxLen; omega) (by omega) (by simp; omega) _ rfl ?_)
                intro gO capO w2 hown2 hgrow2 hat2 hlt2
                have HN1 : Hid (Below V.heap.size V w2) := Lib.hid (HBD.out.grown hgrow2 HBD.out.size (fun q hq => (HOD.out.lt q hq).1))
                have HN2 : Hid (Blk w2 gB 49 (trC s t 2)) := Lib.hid (HKD.out.grown hgrow2 (fun e => blk_own_ne HOD.out HKD.out (by decide) e.symm))
                have HN3 : Hid (w2.ownsRow V.heap.size 47 2 (.slice (some ⟨gO, 0, none⟩) (L + 1) capO) (L + 1) (xs ++ [.string ⟨#[120, 109, 108, 110, 115, 58, 112]⟩, .string u])) := Lib.hid hown2
                clear hown2 hgrow2 hat2
                go_wp2_with fail
                go_roundw
                case rel => exact ⟨2, by omega, by go_num, HN1.out, HN2.out, by rw [HLL.out, HFL.out]; exact HN3.out⟩
                case measure => simp [intOf]
            · subst hj2'
              have yp := (hB.cell (p := ⟨b, bo + k * 4 + 3, none⟩) HBV.out).trans HY3.out
              obtain ⟨v, hv⟩ : ∃ v, v = bits BinOp.and IntKind.i64 x.p2 7 := ⟨_, rfl⟩
              have hv7 : 0 ≤ v ∧ v ≤ 7 := by rw [hv]; exact am x.p2 7 (by omega)
              have hsv : s.c = if v < 4 then none else some (uU (v - 4).toNat) := by rw [HSX.out, hv]; rfl
              have hvb : bits BinOp.and IntKind.i64 x.p2 7 = v := hv.symm
              clear hv
              by_cases hv4 : v < 4
              · have hsn : s.c = none := by rw [hsv, if_pos hv4]
                have hseg : segJ s 3 = segJ s 2 := by unfold segJ; simp [hsn]
                have HTRS : Hid (trC s t 3 = trC s t 2) := Lib.hid (by unfold trC; rw [hseg])
                have HSEG := Lib.hid hseg
                clear hsn hseg hsv hB hK hO
                go_wp2_with fail
                go_roundw
                case rel => exact ⟨3, by omega, by go_num, HB.out, by rw [HTRS.out]; exact HK.out, by rw [HSEG.out]; exact HO.out⟩
                case measure => simp [intOf]
              · obtain ⟨jj, hjj⟩ : ∃ jj : Nat, v = 4 + (jj : Int) := ⟨(v - 4).toNat, by omega⟩
                have hj4 : jj < 4 := by omega
                have hsu : s.c = some (uU jj) := by rw [hsv, if_neg hv4, hjj]; congr 2; omega
                obtain ⟨u, hu⟩ : ∃ u, u = uU jj := ⟨_, rfl⟩
                rw [← hu] at hsu
                have hua : ∀ U : World, (U.alloc (.cells #[.string ⟨#[117, 97]⟩, .string ⟨#[117, 98]⟩, .string ⟨#[117, 99]⟩, .string ⟨#[117, 100]⟩] 9)).cell? ⟨U.heap.size, jj, none⟩ = some (.string u) := fun U => by rw [(Blk.new U _ _).cell, hu]; exact uU_at jj hj4
                have hsegA : segA (segJ s 3) = segA (segJ s 2) ++ [(⟨#[120, 109, 108, 110, 115, 58, 113]⟩, u)] := by unfold segA segJ; simp [hsu, optA, atQq]
                have hsegL : (segA (segJ s 3)).length = (segA (segJ s 2)).length + 1 := by rw [hsegA]; simp
                have hflat : flatA (segA (segJ s 3)) = flatA (segA (segJ s 2)) ++ [.string ⟨#[120, 109, 108, 110, 115, 58, 113]⟩, .string u] := by rw [hsegA, flatA_append]; rfl
                have htrip : (trC s t 2).setIfInBounds 2 (.string u) = trC s t 3 := by unfold trC segJ; simp [hsu, over, tS]
                obtain ⟨L, hL⟩ : ∃ L, L = (segA (segJ s 2)).length := ⟨_, rfl⟩
                obtain ⟨xs, hxs⟩ : ∃ xs, xs = flatA (segA (segJ s 2)) := ⟨_, rfl⟩
                have hL4 : L ≤ 4 := by rw [hL]; exact segA_len _
                have z0 : wr.cell? ⟨gB, 2, none⟩ = (trC s t 2)[2]? := hK.cell 2
                have z1 : ∃ zz, (trC s t 2)[2]? = some zz := ⟨_, rfl⟩
                obtain ⟨zz, hzz⟩ := z1
                rw [hzz] at z0
                have zf := hK.frozen 2
                have hgl := hK.lt
                rw [← hL, ← hxs] at hO HO
                rw [← hL] at hsegL
                rw [← hL]
                rw [← hxs] at hflat
                have hne := blk_own_ne hO hK (by decide)
                have hnew := fun (U : World) => heap_alloc_new U (.cells #[.string ⟨#[120, 109, 108, 110, 115, 58, 113]⟩, .string u] 47)
                have HNE := Lib.hid hne
                have HLL := Lib.hid hsegL
                have HFL := Lib.hid hflat
                have HTR := Lib.hid htrip
                have HNEW := Lib.hid hnew
                have hjs : (4 : Int) + (jj : Int) - 4 = (jj : Int) := by omega
                subst hjj
                clear hsv hu hsegA hsegL hflat htrip hL hxs hzz hne hnew hsu
                have hOd := ((((ownsRow_setCell_other (a := ⟨gB, 2, none⟩) hO HNE.out (.string u)).alloc (.cells #[.string ⟨#[117, 97]⟩, .string ⟨#[117, 98]⟩, .string ⟨#[117, 99]⟩, .string ⟨#[117, 100]⟩] 9)).alloc (.cells #[.string ⟨#[120, 109, 108, 110, 115]⟩, .string ⟨#[120, 109, 108, 110, 115, 58, 112]⟩, .string ⟨#[120, 109, 108, 110, 115, 58, 113]⟩] 9)).alloc (.cells #[.string ⟨#[120, 109, 108, 110, 115, 58, 113]⟩, .string u] 47))
                have HOD := Lib.hid hOd
                have hBd : Below V.heap.size V ((((wr.setCell ⟨gB, 2, none⟩ (.string u)).alloc (.cells #[.string ⟨#[117, 97]⟩, .string ⟨#[117, 98]⟩, .string ⟨#[117, 99]⟩, .string ⟨#[117, 100]⟩] 9)).alloc (.cells #[.string ⟨#[120, 109, 108, 110, 115]⟩, .string ⟨#[120, 109, 108, 110, 115, 58, 112]⟩, .string ⟨#[120, 109, 108, 110, 115, 58, 113]⟩] 9)).alloc (.cells #[.string ⟨#[120, 109, 108, 110, 115, 58, 113]⟩, .string u] 47)) := (((hB.setCell (p := ⟨gB, 2, none⟩) (by simp; omega) _).alloc (by simp; omega) _).alloc (by simp; omega) _).alloc (by simp; omega) _
                have HBD := Lib.hid hBd
                have hKd := (((hK.set_ 2 (.string u)).alloc (.cells #[.string ⟨#[117, 97]⟩, .string ⟨#[117, 98]⟩, .string ⟨#[117, 99]⟩, .string ⟨#[117, 100]⟩] 9)).alloc (.cells #[.string ⟨#[120, 109, 108, 110, 115]⟩, .string ⟨#[120, 109, 108, 110, 115, 58, 112]⟩, .string ⟨#[120, 109, 108, 110, 115, 58, 113]⟩] 9)).alloc (.cells #[.string ⟨#[120, 109, 108, 110, 115, 58, 113]⟩, .string u] 47)
                rw [HTR.out] at hKd
                have HKD := Lib.hid hKd
                clear hOd hBd hKd hB hK hO
                go_wp2_with (at_builtin; refine wpList_append_lies _ rfl (.tmp 79) (.tmp 86) _ rfl V.heap.size 47 j0 _ 2 32 Try.underlying43 hj0 hy0 hy1 hy2 rfl (by omega) _ _ _ rfl HOD.out ⟨wr.heap.size + 1 + 1, 0, none⟩ 1 1 [.string ⟨#[120, 109, 108, 110, 115, 58, 113]⟩, .string u] rfl rfl (World.news_of_block (cs := #[.string ⟨#[120, 109, 108, 110, 115, 58, 113]⟩, .string u]) (t := 47) (fr := (0, 0)) (by have := HNEW.out (((wr.setCell ⟨gB, 2, none⟩ (.string u)).alloc (.cells #[.string ⟨#[117, 97]⟩, .string ⟨#[117, 98]⟩, .string ⟨#[117, 99]⟩, .string ⟨#[117, 100]⟩] 9)).alloc (.cells #[.string ⟨#[120, 109, 108, 110, 115]⟩, .string ⟨#[120, 109, 108, 110, 115, 58, 112]⟩, .string ⟨#[120, 109, 108, 110, 115, 58, 113]⟩] 9)); simpa using this)) (by simp [Value.oneCell']) (by omega) (by unfold maxLen; omega) (by omega) (by simp; omega) _ rfl ?_)
                intro gO capO w2 hown2 hgrow2 hat2 hlt2
                have HN1 : Hid (Below V.heap.size V w2) := Lib.hid (HBD.out.grown hgrow2 HBD.out.size (fun q hq => (HOD.out.lt q hq).1))
                have HN2 : Hid (Blk w2 gB 49 (trC s t 3)) := Lib.hid (HKD.out.grown hgrow2 (fun e => blk_own_ne HOD.out HKD.out (by decide) e.symm))
                have HN3 : Hid (w2.ownsRow V.heap.size 47 2 (.slice (some ⟨gO, 0, none⟩) (L + 1) capO) (L + 1) (xs ++ [.string ⟨#[120, 109, 108, 110, 115, 58, 113]⟩, .string u])) := Lib.hid hown2
                clear hown2 hgrow2 hat2
                go_wp2_with fail
                go_roundw
                case rel => exact ⟨3, by omega, by go_num, HN1.out, HN2.out, by rw [HLL.out, HFL.out]; exact HN3.out⟩
                case measure => simp [intOf]
            ·
              subst hj3
              obtain ⟨X7, rfl, _, _, _⟩ := own_at hO (by simp [segA])
              have hsegE : segJ s 3 = s := by unfold segJ; simp
              have hO3 := hO
              rw [hsegE] at hO3
              have hK3 : Blk wr gB 49 #[.string (tS (over s.a t.a)), .string (tS (over s.b t.b)), .string (tS (over s.c t.c))] := by
                have := hK
                unfold trC at this
                rwa [hsegE] at this
              obtain ⟨q0, hq0⟩ : ∃ q, q = tS (over s.a t.a) := ⟨_, rfl⟩
              obtain ⟨q1, hq1⟩ : ∃ q, q = tS (over s.b t.b) := ⟨_, rfl⟩
              obtain ⟨q2, hq2⟩ : ∃ q, q = tS (over s.c t.c) := ⟨_, rfl⟩
              rw [← hq0, ← hq1, ← hq2] at hK3
              have hrow : rowM (s :: l) = rowM l ++ [.string q0, .string q1, .string q2] := by rw [rowM, hq0, hq1, hq2, HT.out]; rfl
              have HROW := Lib.hid hrow
              have z0 : wr.cell? ⟨gB, 0, none⟩ = some (.string q0) := hK3.cell 0
              have z1 : wr.cell? ⟨gB, 1, none⟩ = some (.string q1) := hK3.cell 1
              have z2 : wr.cell? ⟨gB, 2, none⟩ = some (.string q2) := hK3.cell 2
              have hgl := hK3.lt
              have hlk2 : l.length ≤ 30 := by omega
              have hr4 := (own_below HP.out.row hB).alloc (.cells #[.string q0, .string q1, .string q2] 49)
              have HR4 := Lib.hid hr4
              have HSE := Lib.hid hsegE
              have HO3 := Lib.hid (hO3.alloc (.cells #[.string q0, .string q1, .string q2] 49))
              clear hq0 hq1 hq2 hrow hK3 hr4 hO3 hB hK hO HK HO
              rw [hsegE]
              clear hsegE
              go_wp2_with (at_builtin; refine wpList_append_lies _ rfl (.tmp 88) (.tmp 90) _ rfl w.heap.size 49 i0 _ 3 48 Try.underlying50 hi0 hz0 hz1 hz2 rfl (by omega) _ _ _ rfl HR4.out ⟨wr.heap.size, 0, none⟩ 1 1 [.string q0, .string q1, .string q2] rfl rfl (World.news_of_block (cs := #[.string q0, .string q1, .string q2]) (t := 49) (fr := (0, 0)) (heap_alloc_new wr _)) (by simp [Value.oneCell']) (by omega) (by unfold maxLen; omega) (by omega) (by simp; have := HB.out.size; omega) _ rfl ?_)
              intro g6 cap6 w3 hown6 hgrow6 _ _
              obtain ⟨A, cap, hS⟩ := HP.out.sp
              have hS1 := (hS.below HB.out).alloc (.cells #[.string q0, .string q1, .string q2] 49)
              have hblkg : Blk (wr.alloc (.cells #[.string q0, .string q1, .string q2] 49)) g 65 _ := hS1.blk
              have hS3 := hS1.keep hgrow6 ⟨fun e => blk_own_ne HR4.out hblkg (by decide) e, fun e => own_ne HR4.out hS1.own (by decide) _ e rfl⟩
              have hO4 := HO3.out.kept hgrow6 (.inr (fun e => own_ne HO3.out HR4.out (by decide) _ rfl e.symm))
              have hb3 : Below w.heap.size w w3 := ((HP.out.bel.trans (HB.out.mono hszV)).alloc (by have := HB.out.size; omega) _).grown hgrow6 (by simp; have := HB.out.size; omega) (fun q hq => (HR4.out.lt q hq).1)
              have HS3 := Lib.hid hS3
              have HB3 := Lib.hid hb3
              have hbl2 := bsOf_len l
              have hgood := segOf_ok x
              rw [← HSX.out] at hgood
              have hEF := enterF_seg ((l.length : Int) + 1) s (bsOf l) (fun u hu => (hgood.2.1 u hu).1) (fun u hu => (hgood.2.2 u hu).1) (by omega)
              obtain ⟨X, capX, cur, hvX, _, hX, _, _, _, htk⟩ := hO4.2.resolve_left (fun h => by cases h.1)
              have hvX2 := hvX
              injection hvX2 with e1 _ e3
              injection e1 with e1
              injection e1 with e1
              subst e1
              have hcs : ∀ (k : Nat) (u : Value), (flatA (segA s))[k]? = some u → cur[k]? = some u := fun k u hu => by
                rw [← htk, List.getElem?_take] at hu
                split at hu
                · simpa using hu
                · cases hu
              have hent := enter_any hS3 (by omega) (by omega) (by omega) (segA s) X7 c7 cur hX hcs (Nat.le_trans (segA_len s) (by omega))
              rw [hEF] at hent
              have HENT := Lib.hid hent
              have HOW := Lib.hid hown6
              clear hS hS1 hblkg hS3 hO4 hb3 hown6 hgrow6 hEF hvX hX htk hcs hent e3
              go_wp2_with fail
              refine HENT.out.mono ?_
              rintro e w4 ⟨ov, A', cap', rfl, hS4, hO5, hF4, hA4⟩
              obtain ⟨Ao, co, rfl, hco, _⟩ := own_slice hO5
              obtain ⟨bq, rfl, hbq, _, hcq⟩ := own_at hO5 (by simp)
              have yx : w4.cell? ⟨bq, 0, none⟩ = some (.string ⟨#[120]⟩) := hcq 0 (by simp)
              have hr5 := row_far HS3.out HOW.out hF4
              have hg1 := HS3.out.hg
              have hA1 := HS3.out.lt.2.2
              have hw3 := HB3.out.size
              have hb4' : Below w.heap.size w w4 := HB3.out.trans (hF4.to_below (B := w.heap.size) hg1 hA1 hw3)
              have HN : Hid (PS w g (.slice (some ⟨g6, 0, none⟩) (l.length + 1 + 1) cap6) (s :: l) w4) := Lib.hid ⟨fun s' hs' => by
                  rcases List.mem_cons.1 hs' with rfl | hs'
                  · exact hgood
                  · exact HP.out.good s' hs', ⟨A', cap', hS4⟩, by rw [HROW.out]; exact hr5, hb4'⟩
              clear hS4 hO5 hF4 hA4 hcq hr5 hb4' hgood
              go_wp2_with fail
              go_meet
              case rel => exact ⟨s :: l, by simp; omega, HN.out⟩
      case rest =>
        obtain ⟨l2, hl2, hP2⟩ := hcut
        obtain ⟨V2, rfl⟩ : ∃ V, V = wc := ⟨_, rfl⟩
        obtain ⟨A5, c5, rfl, _, hc5⟩ := own_slice hP2.row
        unfold maxLen at hc5
        have HP2 := Lib.hid hP2
        clear hP2 HP y0 HA0 HA1 HA2 HA3 hszV hc4
        go_wp2_with fail
        go_loopw [13] (fun jv wx => ∃ j : Nat, j ≤ 3 ∧ jv = .int .i64 j ∧ PS w g (.slice A5 (l2.length + 1) c5) l2 wx) (fun jv _ => 3 - (intOf jv).toNat)
        case atStart => exact ⟨0, by omega, rfl, HP2.out⟩
        case round =>
          obtain ⟨j, hj, rfl, hP3⟩ := hrel
          have HP3 := Lib.hid hP3
          obtain ⟨A, cap, hS⟩ := hP3.sp
          obtain ⟨b4, rfl, hb4, _, hc4c⟩ := own_at hP3.row (by omega)
          have hcl : (l2.length : Int) + 1 ≤ c5 := by omega
          rcases (show j = 0 ∨ j = 1 ∨ j = 2 ∨ j = 3 by omega) with hj0' | hj1' | hj2' | hj3
          · subst hj0'
            have hof := of_any (hS.alloc (.cells #[.string ⟨#[]⟩, .string ⟨#[112]⟩, .string ⟨#[113]⟩] 9)) pNo
            rw [(ofK_top l2).1] at hof
            have hcell : wr.cell? ⟨b4, l2.length * 3, none⟩ = some (.string (tS (topOf l2).a)) := by rw [hc4c _ (by omega)]; exact rowM_last l2 0
            have hgd := (top_good l2 hP3.good).1
            obtain ⟨tt, htt⟩ : ∃ tt, tt = (topOf l2).a := ⟨_, rfl⟩
            rw [← htt] at hof hcell hgd
            clear htt hc4c hS hP3
            cases tt with
            | none =>
              simp only [ofV] at hof
              simp only [tS, noneS] at hcell
              have HOF := Lib.hid hof
              clear hof hgd
              go_wp2_with fail
              refine HOF.out.mono ?_
              rintro e w2 ⟨rfl, rfl⟩
              go_wp2_with fail
              go_roundw
              case rel => exact ⟨1, by omega, by go_num, HP3.out.below ((Below.refl _ _).alloc (Nat.le_refl _) _)⟩
              case measure => simp [intOf]
            | some u =>
              have hun : (u.toList == [110, 111, 110, 101]) = false := by have h := hgd u rfl; rwa [noneS_list] at h
              simp only [ofV] at hof
              simp only [tS] at hcell
              have HOF := Lib.hid hof
              clear hof hgd
              go_wp2_with fail
              refine HOF.out.mono ?_
              rintro e w2 ⟨rfl, rfl⟩
              go_wp2_with fail
              go_roundw
              case rel => exact ⟨1, by omega, by go_num, HP3.out.below ((Below.refl _ _).alloc (Nat.le_refl _) _)⟩
              case measure => simp [intOf]
          · subst hj1'
            have hof := of_any (hS.alloc (.cells #[.string ⟨#[]⟩, .string ⟨#[112]⟩, .string ⟨#[113]⟩] 9)) pP
            rw [(ofK_top l2).2.1] at hof
            have hcell : wr.cell? ⟨b4, l2.length * 3 + 1, none⟩ = some (.string (tS (topOf l2).b)) := by rw [hc4c _ (by omega)]; exact rowM_last l2 1
            have hgd := (top_good l2 hP3.good).2.1
            obtain ⟨tt, htt⟩ : ∃ tt, tt = (topOf l2).b := ⟨_, rfl⟩
            rw [← htt] at hof hcell hgd
            clear htt hc4c hS hP3
            cases tt with
            | none =>
              simp only [ofV] at hof
              simp only [tS, noneS] at hcell
              have HOF := Lib.hid hof
              clear hof hgd
              go_wp2_with fail
              refine HOF.out.mono ?_
              rintro e w2 ⟨rfl, rfl⟩
              go_wp2_with fail
              go_roundw
              case rel => exact ⟨2, by omega, by go_num, HP3.out.below ((Below.refl _ _).alloc (Nat.le_refl _) _)⟩
              case measure => simp [intOf]
            | some u =>
              have hun : (u.toList == [110, 111, 110, 101]) = false := by have h := hgd u rfl; rwa [noneS_list] at h
              simp only [ofV] at hof
              simp only [tS] at hcell
              have HOF := Lib.hid hof
              clear hof hgd
              go_wp2_with fail
              refine HOF.out.mono ?_
              rintro e w2 ⟨rfl, rfl⟩
              go_wp2_with fail
              go_roundw
              case rel => exact ⟨2, by omega, by go_num, HP3.out.below ((Below.refl _ _).alloc (Nat.le_refl _) _)⟩
              case measure => simp [intOf]
          · subst hj2'
            have hof := of_any (hS.alloc (.cells #[.string ⟨#[]⟩, .string ⟨#[112]⟩, .string ⟨#[113]⟩] 9)) pQ
            rw [(ofK_top l2).2.2] at hof
            have hcell : wr.cell? ⟨b4, l2.length * 3 + 2, none⟩ = some (.string (tS (topOf l2).c)) := by rw [hc4c _ (by omega)]; exact rowM_last l2 2
            have hgd := (top_good l2 hP3.good).2.2
            obtain ⟨tt, htt⟩ : ∃ tt, tt = (topOf l2).c := ⟨_, rfl⟩
            rw [← htt] at hof hcell hgd
            clear htt hc4c hS hP3
            cases tt with
            | none =>
              simp only [ofV] at hof
              simp only [tS, noneS] at hcell
              have HOF := Lib.hid hof
              clear hof hgd
              go_wp2_with fail
              refine HOF.out.mono ?_
              rintro e w2 ⟨rfl, rfl⟩
              go_wp2_with fail
              go_roundw
              case rel => exact ⟨3, by omega, by go_num, HP3.out.below ((Below.refl _ _).alloc (Nat.le_refl _) _)⟩
              case measure => simp [intOf]
            | some u =>
              have hun : (u.toList == [110, 111, 110, 101]) = false := by have h := hgd u rfl; rwa [noneS_list] at h
              simp only [ofV] at hof
              simp only [tS] at hcell
              have HOF := Lib.hid hof
              clear hof hgd
              go_wp2_with fail
              refine HOF.out.mono ?_
              rintro e w2 ⟨rfl, rfl⟩
              go_wp2_with fail
              go_roundw
              case rel => exact ⟨3, by omega, by go_num, HP3.out.below ((Below.refl _ _).alloc (Nat.le_refl _) _)⟩
              case measure => simp [intOf]
          · subst hj3
            have HD := Lib.hid (depth_any hS)
            clear hS hP3 hc4c
            go_wp2_with fail
            refine HD.out.mono ?_
            rintro e w2 ⟨rfl, rfl⟩
            go_wp2_with fail
            go_roundw
            case rel => exact ⟨k + 1, l2, by omega, by go_num, hl2, HP3.out⟩
            case measure => simp [intOf]; omega
    · have hnk : ¬ ((k : Int) < (x0.length : Int)) ∨ ¬ ((k : Int) < 30) := by have := HNE.out; omega
      clear hP
      obtain ⟨A, cap, hS⟩ := HP.out.sp
      have hxml := of_any hS xmlS
      rw [ofK_xml] at hxml
      simp only [ofV] at hxml
      have HXML := Lib.hid hxml
      have HB := Lib.hid HP.out.bel
      clear hS hxml HP
      by_cases hnk2 : (k : Int) < (x0.length : Int)
      · have hnk3 : ¬ ((k : Int) < 30) := by omega
        go_wp2_with fail
        refine HXML.out.mono ?_
        rintro e w2 ⟨rfl, rfl⟩
        go_wp2_with fail
        refine (space_awake _).mono ?_
        rintro e w3 ⟨rfl, hb3⟩
        have HB3 := Lib.hid hb3
        clear hb3
        go_wp2_with fail
        go_ret
        exact ⟨by first | rfl | (simp; exact xmlU_list), HB.out.trans (HB3.out.mono HB.out.size)⟩
      · clear hnk
        go_wp2_with fail
        refine HXML.out.mono ?_
        rintro e w2 ⟨rfl, rfl⟩
        go_wp2_with fail
        refine (space_awake _).mono ?_
        rintro e w3 ⟨rfl, hb3⟩
        have HB3 := Lib.hid hb3
        clear hb3
        go_wp2_with fail
        go_ret
        exact ⟨by first | rfl | (simp; exact xmlU_list), HB.out.trans (HB3.out.mono HB.out.size)⟩
end Go.Proofs.Ytgdkmipkgjkjjaa
