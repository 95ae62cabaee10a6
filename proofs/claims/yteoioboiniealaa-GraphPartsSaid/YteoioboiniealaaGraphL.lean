/- galliardref13.Any: a graph by picks. -/
import Derived.Test.YteoioboiniealaaGraphK
import Derived.Deep.DeepCutAuto
import Derived.Test.YteoioboiniealaaStr
import Derived.Test.YteoioboiniealaaArgs
namespace Go.Proofs.Yteoioboiniealaa
open Go.RowKit

attribute [local go_sem] conv_new1

/-- What a node of a graph by picks is. -/
def Q13 (x : GN) : Prop := 1 ≤ x.kind ∧ x.kind ≤ 6 ∧ (x.kind = 3 → 0 ≤ x.src ∧ x.src ≤ 2 ∧ 0 ≤ x.dst ∧ x.dst ≤ 2 ∧ 0 ≤ x.msg ∧ x.msg ≤ 2 ∧ -1 ≤ x.reply ∧ x.reply ≤ 1) ∧ x.id.size ≤ 1
/-- The memory of the graph that is made: g's block, the parts, the messages, the nodes till now. -/
structure AnyW (w : World) (vN vE : Value) (ns : List GN) (es : List (Int × Int)) (W : World) : Prop where
  bel : Below w.heap.size w W
  gb : Blk W w.heap.size 44 #[.slice (some ⟨w.heap.size + 1, 0, none⟩) 3 3, .slice (some ⟨w.heap.size + 1 + 1, 0, none⟩) 2 2, vN, vE]
  pb : Blk W (w.heap.size + 1) 9 #[.string ⟨#[112, 97]⟩, .string ⟨#[112, 98]⟩, .string ⟨#[112, 99]⟩]
  mb : Blk W (w.heap.size + 1 + 1) 9 #[.string ⟨#[109, 97]⟩, .string ⟨#[109, 98]⟩]
  nodes : W.ownsRow (w.heap.size + 3) 55 7 vN ns.length (flatN ns)
  edges : W.ownsRow (w.heap.size + 3) 53 2 vE es.length (flatE es)
section
variable {w W W' : World} {vN vE : Value} {ns : List GN} {es : List (Int × Int)}
theorem AnyW.alloc (h : AnyW w vN vE ns es W) (o : Obj) : AnyW w vN vE ns es (W.alloc o) :=
  ⟨h.bel.alloc h.bel.size _, h.gb.alloc _, h.pb.alloc _, h.mb.alloc _, h.nodes.alloc _, h.edges.alloc _⟩
theorem AnyW.drew (h : AnyW w vN vE ns es W) : AnyW w vN vE ns es W.drew := ⟨h.bel.drew, h.gb, h.pb, h.mb, h.nodes, h.edges⟩
theorem AnyW.setG (h : AnyW w vN vE ns es W) (j : Nat) (u : Value) (hu : #[.slice (some ⟨w.heap.size + 1, 0, none⟩) 3 3, .slice (some ⟨w.heap.size + 1 + 1, 0, none⟩) 2 2, vN, vE][j]? = some u) : AnyW w vN vE ns es (W.setCell ⟨w.heap.size, j, none⟩ u) := by
  refine ⟨h.bel.setCell (by simp) _, ?_, h.pb.far (by simp) _, h.mb.far (by simp; omega) _, ownsRow_setCell_below h.nodes (by simp) _, ownsRow_setCell_below h.edges (by simp) _⟩
  have := h.gb.set_ j u
  rwa [show (#[.slice (some ⟨w.heap.size + 1, 0, none⟩) 3 3, .slice (some ⟨w.heap.size + 1 + 1, 0, none⟩) 2 2, vN, vE] : Array Value).setIfInBounds j u = #[.slice (some ⟨w.heap.size + 1, 0, none⟩) 3 3, .slice (some ⟨w.heap.size + 1 + 1, 0, none⟩) 2 2, vN, vE] by
    obtain ⟨hj, hu⟩ := Array.getElem?_eq_some_iff.1 hu
    rw [← hu]
    apply Array.ext
    · simp
    · intro i h1 h2
      rw [Array.getElem_setIfInBounds]
      split
      · rename_i e; subst e; rfl
      · rfl] at this
theorem AnyW.sz (h : AnyW w vN vE ns es W) : w.heap.size + 3 ≤ W.heap.size := by have := h.mb.lt; omega
theorem AnyW.setFar (h : AnyW w vN vE ns es W) {Y : Nat} {cs : Array Value} (hy : Blk W Y 55 cs) (hN : vN.ownBlock ≠ some Y) (hY : w.heap.size + 3 ≤ Y) (j : Nat) (u : Value) : AnyW w vN vE ns es (W.setCell ⟨Y, j, none⟩ u) :=
  ⟨h.bel.setCell (by simp; omega) _, h.gb.far (by simp; omega) _, h.pb.far (by simp; omega) _, h.mb.far (by simp; omega) _, ownsRow_setCell_other h.nodes hN _, ownsRow_setCell_other h.edges (by
    intro e
    rcases h.edges.2 with ⟨rfl, _⟩ | ⟨g, cap, cur, rfl, _, hh, _⟩
    · simp [Value.ownBlock] at e
    · have : g = Y := by simpa [Value.ownBlock] using e
      subst this
      unfold Blk at hy
      rw [hh] at hy
      injection hy with hy
      injection hy with _ ht
      exact absurd ht (by decide)) _⟩
theorem AnyW.ne (h : AnyW w vN vE ns es W) (q : Nat) (hq : q < w.heap.size + 3) : vN.ownBlock ≠ some q ∧ vE.ownBlock ≠ some q := by
  constructor
  · intro e
    have := (h.nodes.lt q e).1
    omega
  · intro e
    have := (h.edges.lt q e).1
    omega
theorem own_apart {b1 b2 e1 e2 s1 s2 n1 n2 : Nat} {v1 v2 : Value} {xs1 xs2 : List Value} (h1 : W.ownsRow b1 e1 s1 v1 n1 xs1) (h2 : W.ownsRow b2 e2 s2 v2 n2 xs2) (hne : e1 ≠ e2) : v1.ownBlock = none ∨ v1.ownBlock ≠ v2.ownBlock := by
  rcases hv : v1.ownBlock with _ | q
  · exact .inl rfl
  · exact .inr (fun e => own_ne h1 h2 hne q hv e.symm)
theorem AnyW.push (h : AnyW w vN vE ns es W) {vN' : Value} {x : GN} (hg : W.grownBy W' vN.ownBlock) (ho : W'.ownsRow (w.heap.size + 3) 55 7 vN' (ns.length + 1) (flatN ns ++ cellsN x)) : AnyW w vN' vE (ns ++ [x]) es (W'.setCell ⟨w.heap.size, 2, none⟩ vN') := by
  have hn := fun q hq => Ne.symm (h.ne q hq).1
  refine ⟨(h.bel.grown hg h.bel.size (fun k hk => by have := (h.nodes.lt k hk).1; omega)).setCell (by simp) _, ((h.gb.grown hg (hn _ (by omega))).set_ 2 _), (h.pb.grown hg (hn _ (by omega))).far (by simp) _, (h.mb.grown hg (hn _ (by omega))).far (by simp; omega) _, ?_, ?_⟩
  · rw [flatN_append, List.length_append]
    simp only [flatN, List.append_nil, List.length_cons, List.length_nil]
    exact ownsRow_setCell_below ho (by simp) _
  · exact ownsRow_setCell_below (h.edges.kept hg (own_apart h.edges h.nodes (by decide))) (by simp) _
theorem AnyW.pushE (h : AnyW w vN vE ns es W) {vE' : Value} {x : Int × Int} (hg : W.grownBy W' vE.ownBlock) (ho : W'.ownsRow (w.heap.size + 3) 53 2 vE' (es.length + 1) (flatE es ++ [.int .i64 x.1, .int .i64 x.2])) : AnyW w vN vE' ns (es ++ [x]) (W'.setCell ⟨w.heap.size, 3, none⟩ vE') := by
  have hn := fun q hq => Ne.symm (h.ne q hq).2
  refine ⟨(h.bel.grown hg h.bel.size (fun k hk => by have := (h.edges.lt k hk).1; omega)).setCell (by simp) _, ((h.gb.grown hg (hn _ (by omega))).set_ 3 _), (h.pb.grown hg (hn _ (by omega))).far (by simp) _, (h.mb.grown hg (hn _ (by omega))).far (by simp; omega) _, ?_, ?_⟩
  · exact ownsRow_setCell_below (h.nodes.kept hg (own_apart h.nodes h.edges (by decide))) (by simp) _
  · rw [flatE_append, List.length_append]
    simp only [flatE, List.length_cons, List.length_nil]
    exact ownsRow_setCell_below ho (by simp) _
theorem AnyW.grownG (h : AnyW w vN vE ns es W) (hg : W.grownBy W' vN.ownBlock) : W'.cell? ⟨w.heap.size, 2, none⟩ = some vN ∧ W'.frozen? ⟨w.heap.size, 2, none⟩ = false :=
  have hb := h.gb.grown hg (Ne.symm (h.ne _ (by omega)).1)
  ⟨hb.cell 2, hb.frozen 2⟩
theorem AnyW.grownE (h : AnyW w vN vE ns es W) (hg : W.grownBy W' vE.ownBlock) : W'.cell? ⟨w.heap.size, 3, none⟩ = some vE ∧ W'.frozen? ⟨w.heap.size, 3, none⟩ = false :=
  have hb := h.gb.grown hg (Ne.symm (h.ne _ (by omega)).2)
  ⟨hb.cell 3, hb.frozen 3⟩
theorem Try.infoGN : (Try.prog.info? 55).map (fun i => (i.zero, i.size, i.bytes)) = some (some (.agg #[.int .i64 0, .string ⟨#[]⟩, .int .i64 0, .int .i64 0, .int .i64 0, .int .i64 0, .bool false]), 7, 64) := by kernel_rfl
theorem Try.infoE : (Try.prog.info? 53).map (fun i => (i.zero, i.size, i.bytes)) = some (some (.agg #[.int .i64 0, .int .i64 0]), 2, 16) := by kernel_rfl
end

/-- What holds at each round's head of the first loop. -/
def InAny1 (w : World) (n : Nat) (iv : Value) (wr : World) : Prop :=
  ∃ (k : Nat) (vN : Value) (ns : List GN), k ≤ n ∧ iv = .int .i64 k ∧ ns.length = k ∧ (∀ x ∈ ns, Q13 x) ∧ AnyW w vN (.slice none 0 0) ns [] wr
/-- What an edge of a graph by picks is. -/
def E13 (n : Nat) (x : Int × Int) : Prop := 0 ≤ x.1 ∧ x.1 < n ∧ 0 ≤ x.2 ∧ x.2 < n
/-- What holds at each round's head of the second loop. -/
def InAny2 (w : World) (n m : Nat) (iv : Value) (wr : World) : Prop :=
  ∃ (j : Nat) (vN vE : Value) (ns : List GN) (es : List (Int × Int)), j ≤ 14 ∧ j ≤ m ∧ iv = .int .i64 j ∧ ns.length = n ∧ es.length = j ∧ (∀ x ∈ ns, Q13 x) ∧ (∀ x ∈ es, E13 n x) ∧ AnyW w vN vE ns es wr
/-- A node that is made, behind the nodes till now. -/
def MadeN (P : GN → Prop) (w : World) (vN : Value) (ns : List GN) (Y : Nat) (yv : Value) (wr : World) : Prop :=
  ∃ x : GN, P x ∧ yv = .pointer (some ⟨Y, 0, none⟩) ∧ Blk wr Y 55 (cellsN x).toArray ∧ AnyW w vN (.slice none 0 0) ns [] wr
theorem made_new {P : GN → Prop} {w wr : World} {vN : Value} {ns : List GN} {q0 : Int} {q1 : ByteArray} {q2 q3 q4 q5 : Int} {q6 : Bool} (hP : P ⟨q0, q1, q2, q3, q4, q5, q6⟩) (h : AnyW w vN (.slice none 0 0) ns [] wr) (o : Obj) :
    MadeN P w vN ns (wr.heap.size + 1) (.pointer (some ⟨wr.heap.size + 1, 0, none⟩)) ((wr.alloc o).alloc (.cells #[.int .i64 q0, .string q1, .int .i64 q2, .int .i64 q3, .int .i64 q4, .int .i64 q5, .bool q6] 55)) :=
  ⟨_, hP, rfl, by have := Blk.new (wr.alloc o) 55 (cellsN ⟨q0, q1, q2, q3, q4, q5, q6⟩).toArray; rwa [show (wr.alloc o).heap.size = wr.heap.size + 1 by simp] at this, (h.alloc _).alloc _⟩

theorem anyW_start (w : World) : AnyW w (.slice none 0 0) (.slice none 0 0) [] [] (((w.alloc (.cells #[.slice (some ⟨w.heap.size + 1, 0, none⟩) 3 3, .slice (some ⟨w.heap.size + 1 + 1, 0, none⟩) 2 2, .slice none 0 0, .slice none 0 0] 44)).alloc (.cells #[.string ⟨#[112, 97]⟩, .string ⟨#[112, 98]⟩, .string ⟨#[112, 99]⟩] 9)).alloc (.cells #[.string ⟨#[109, 97]⟩, .string ⟨#[109, 98]⟩] 9)) := by
  refine ⟨((((Below.refl _ _).alloc (Nat.le_refl _) _).alloc (by simp) _).alloc (by simp; omega) _), ((Blk.new _ _ _).alloc _).alloc _, ?_, ?_, World.ownsRow_nil _ _ _ _, World.ownsRow_nil _ _ _ _⟩
  · have := (Blk.new (w.alloc (.cells #[.slice (some ⟨w.heap.size + 1, 0, none⟩) 3 3, .slice (some ⟨w.heap.size + 1 + 1, 0, none⟩) 2 2, .slice none 0 0, .slice none 0 0] 44)) 9 #[.string ⟨#[112, 97]⟩, .string ⟨#[112, 98]⟩, .string ⟨#[112, 99]⟩]).alloc (.cells #[.string ⟨#[109, 97]⟩, .string ⟨#[109, 98]⟩] 9)
    simpa using this
  · have := Blk.new ((w.alloc (.cells #[.slice (some ⟨w.heap.size + 1, 0, none⟩) 3 3, .slice (some ⟨w.heap.size + 1 + 1, 0, none⟩) 2 2, .slice none 0 0, .slice none 0 0] 44)).alloc (.cells #[.string ⟨#[112, 97]⟩, .string ⟨#[112, 98]⟩, .string ⟨#[112, 99]⟩] 9)) 9 #[.string ⟨#[109, 97]⟩, .string ⟨#[109, 98]⟩]
    simpa using this

/-- What comes back. -/
def RetAny (w : World) (e : Ending) (w' : World) : Prop :=
  ∃ vN vE ns es, e = .returned (.agg #[.slice (some ⟨w.heap.size + 1, 0, none⟩) 3 3, .slice (some ⟨w.heap.size + 1 + 1, 0, none⟩) 2 2, vN, vE]) ∧ AnyW w vN vE ns es w' ∧ ns.length ≤ 8 ∧ es.length ≤ 14 ∧ (∀ x ∈ ns, Q13 x) ∧ (∀ x ∈ es, E13 ns.length x)
set_option maxHeartbeats 8000000 in
set_option maxRecDepth 100000 in
theorem any_any {w : World} {A B : Option Addr} {cA cB : Nat} (odd : Int) (xs : List Int) (ps : List (Int × Int)) (hA : IntsAt w A xs) (hn : xs.length ≤ maxLen) (hB : PairsAt w B ps) (hm : ps.length ≤ maxLen) :
    Calls Try.prog 13 #[.slice A xs.length cA, .slice B ps.length cB, .int .i64 odd] w (RetAny w) := by
  obtain ⟨n, hxs⟩ : ∃ n, n = xs.length := ⟨_, rfl⟩
  obtain ⟨m, hps⟩ : ∃ m, m = ps.length := ⟨_, rfl⟩
  rw [← hxs] at hn ⊢
  rw [← hps] at hm ⊢
  obtain ⟨i0, hi0, hz0, hz1, hz2⟩ := info_parts Try.infoGN
  obtain ⟨j0, hj0, hy0, hy1, hy2⟩ := info_parts Try.infoE
  have HA := Lib.hid hA
  have HX := Lib.hid hxs
  have HB := Lib.hid hB
  have HP := Lib.hid hps
  clear hA hxs hB hps
  unfold maxLen at hn hm
  obtain ⟨nn, hnn⟩ : ∃ nn : Nat, nn = min n 8 := ⟨_, rfl⟩
  have hnn8 : nn ≤ 8 := by omega
  have hnnn : nn ≤ n := by omega
  go_enter Try.func13, Try.ntmps13
  go_upto_region 2 with fail
  have haw := anyW_start w
  generalize (((w.alloc (.cells #[.slice (some ⟨w.heap.size + 1, 0, none⟩) 3 3, .slice (some ⟨w.heap.size + 1 + 1, 0, none⟩) 2 2, .slice none 0 0, .slice none 0 0] 44)).alloc (.cells #[.string ⟨#[112, 97]⟩, .string ⟨#[112, 98]⟩, .string ⟨#[112, 99]⟩] 9)).alloc (.cells #[.string ⟨#[109, 97]⟩, .string ⟨#[109, 98]⟩] 9)) = W at *
  have HAW0 := Lib.hid haw
  clear haw
  go_cut [7] (fun s7 wx => s7 = .int .i64 (nn : Int) ∧ wx = W)
  case first =>
    by_cases h8 : (8 : Int) < n
    all_goals
      go_wp2_with fail
      go_meet
      case rel => exact ⟨by congr 1; omega, rfl⟩
  case rest =>
  obtain ⟨rfl, rfl⟩ := hcut
  clear hnn
  go_wp2_with fail
  go_loopw [8] (fun iv wr => InAny1 w nn iv wr) (fun iv _ => nn - (intOf iv).toNat)
  case atStart =>
    refine ⟨0, .slice none 0 0, [], Nat.zero_le _, rfl, rfl, by simp, ?_⟩
    exact HAW0.out
  case round =>
    obtain ⟨k, vN, ns, hk, rfl, hlen, hq, hAW⟩ := hrel
    have HAW := Lib.hid hAW
    have hsz := hAW.sz
    clear hAW
    have HQ := Lib.hid hq
    have HL := Lib.hid hlen
    clear hq hlen
    by_cases hlt : k < nn
    · obtain ⟨b, o, rfl, hbl, hcell⟩ := HA.out k (by have := HX.out; omega)
      have hx : wr.cell? ⟨b, o + k, none⟩ = some (.int .i64 (xs[k]'(by have := HX.out; omega))) := (HAW.out.bel.cell (p := ⟨b, o + k, none⟩) hbl).trans hcell
      generalize xs[k]'(by have := HX.out; omega) = x at hx
      clear hcell
      obtain ⟨m0, m1⟩ := and_mask x 65535 (by omega)
      generalize hx16 : bits BinOp.and IntKind.i64 x ((65535 : Nat) : Int) = x16 at *
      have hx16' : bits BinOp.and IntKind.i64 x 65535 = x16 := hx16
      clear hx16
      by_cases hk0 : 0 < k
      · have hk0i : (0 : Int) < k := by omega
        have hk0b : ((k : Int) == 0) = false := by
          have : (k : Int) ≠ 0 := by omega
          simpa using this
        rcases h1 : (x16 % 6 + 1 == 1) with _ | _
        · go_upto_if 61 with fail
          go_cut [10] (fun s10 wx => MadeN Q13 w vN ns (wr.heap.size + 1) s10 wx)
          case first =>
            rcases h3 : (x16 % 6 + 1 == 3) with _ | _
            · go_wp2_with fail
              go_meet
              case rel => exact made_new (by have : x16 % 6 + 1 ≠ 3 := (by simpa using h3); simp [Q13, strOfNums_size]; omega) HAW.out _
            · obtain ⟨va, va0, va1, vae⟩ : ∃ a, 0 ≤ a ∧ a ≤ 15 ∧ bits BinOp.and IntKind.i64 (x16 / 8) 15 = a := ⟨_, (am15 _).1, (am15 _).2, rfl⟩
              obtain ⟨vb, vb0, vb1, vbe⟩ : ∃ a, 0 ≤ a ∧ a ≤ 1 ∧ bits BinOp.and IntKind.i64 (x16 / 128) 1 = a := ⟨_, (am1 _).1, (am1 _).2, rfl⟩
              obtain ⟨vc, vc0, vc1, vce⟩ : ∃ a, 0 ≤ a ∧ a ≤ 1 ∧ bits BinOp.and IntKind.i64 (x16 / 256) 1 = a := ⟨_, (am1 _).1, (am1 _).2, rfl⟩
              obtain ⟨vd, vd0, vd1, vde⟩ : ∃ a, 0 ≤ a ∧ a ≤ 3 ∧ bits BinOp.and IntKind.i64 (x16 / 1024) 3 = a := ⟨_, (am3 _).1, (am3 _).2, rfl⟩
              obtain ⟨ve, ve0, ve1, vee⟩ : ∃ a, 0 ≤ a ∧ a ≤ 1 ∧ bits BinOp.and IntKind.i64 (x16 / 4096) 1 = a := ⟨_, (am1 _).1, (am1 _).2, rfl⟩
              obtain ⟨vf, vf0, vf1, vfe⟩ : ∃ a, 0 ≤ a ∧ a ≤ 1 ∧ bits BinOp.and IntKind.i64 (x16 / 8192) 1 = a := ⟨_, (am1 _).1, (am1 _).2, rfl⟩
              obtain ⟨vo, vo0, vo1, voe⟩ : ∃ a, 0 ≤ a ∧ a ≤ 15 ∧ bits BinOp.and IntKind.i64 odd 15 = a := ⟨_, (am15 _).1, (am15 _).2, rfl⟩
              rcases c5 : (ve == 1) with _ | _
              · rcases c8 : (vo == 8) with _ | _
                · rcases c9 : (vo == 9) with _ | _
                  · go_wp2_with fail
                    go_meet
                    case rel => exact made_new (by simp [Q13, strOfNums_size] <;> omega) HAW.out _
                  · go_wp2_with fail
                    go_meet
                    case rel => exact made_new (by simp [Q13, strOfNums_size] <;> omega) HAW.out _
                · have c9 : (vo == 9) = false := by
                    have : vo = 8 := by simpa using c8
                    simp [this]
                  go_wp2_with fail
                  go_meet
                  case rel => exact made_new (by simp [Q13, strOfNums_size] <;> omega) HAW.out _
              · rcases c8 : (vo == 8) with _ | _
                · rcases c9 : (vo == 9) with _ | _
                  · go_wp2_with fail
                    go_meet
                    case rel => exact made_new (by simp [Q13, strOfNums_size] <;> omega) HAW.out _
                  · go_wp2_with fail
                    go_meet
                    case rel => exact made_new (by simp [Q13, strOfNums_size] <;> omega) HAW.out _
                · have c9 : (vo == 9) = false := by
                    have : vo = 8 := by simpa using c8
                    simp [this]
                  go_wp2_with fail
                  go_meet
                  case rel => exact made_new (by simp [Q13, strOfNums_size] <;> omega) HAW.out _
          case rest =>
            obtain ⟨q, hqx, rfl, hblk, haw⟩ := hcut
            obtain ⟨q0, q1, q2, q3, q4, q5, q6⟩ := q
            have y0 := hblk.cell 0
            have y1 := hblk.cell 1
            have y2 := hblk.cell 2
            have y3 := hblk.cell 3
            have y4 := hblk.cell 4
            have y5 := hblk.cell 5
            have y6 := hblk.cell 6
            have g2 := haw.gb.cell 2
            simp only [cellsN, List.getElem?_toArray, List.getElem?_cons_zero, List.getElem?_cons_succ] at y0 y1 y2 y3 y4 y5 y6 g2
            have HAW2 := Lib.hid haw
            have HQX := Lib.hid hqx
            have hns : ns.length ≤ 8 := by have := HL.out; omega
            have hszc := haw.sz
            clear hblk haw hqx
            go_wp2_with (at_builtin; refine wpList_append_lies _ rfl (.tmp 104) (.tmp 106) _ rfl (w.heap.size + 3) 55 i0 _ 7 64 Try.underlying41 hi0 hz0 hz1 hz2 rfl (by omega) _ _ _ rfl (HAW2.out.nodes.alloc _) ⟨wc.heap.size, 0, none⟩ 1 1 (cellsN ⟨q0, q1, q2, q3, q4, q5, q6⟩) rfl rfl (World.news_of_block (cs := (cellsN ⟨q0, q1, q2, q3, q4, q5, q6⟩).toArray) (t := 55) (fr := (0, 0)) (heap_alloc_new wc (.cells (cellsN ⟨q0, q1, q2, q3, q4, q5, q6⟩).toArray 55))) (by simp [cellsN, Value.oneCell']) (by omega) (by unfold maxLen; omega) (by omega) (by simp; omega) (wc.heap.size + 1) (by simp) ?_)
            intro gO capO w2 hown2 hgrow hat hlt3
            obtain ⟨c2, f2⟩ := (HAW2.out.alloc _).grownG hgrow
            have haw3 := (HAW2.out.alloc _).push (x := ⟨q0, q1, q2, q3, q4, q5, q6⟩) hgrow hown2
            have HAW3 := Lib.hid haw3
            clear haw3 hown2 hgrow hat hlt3 y0 y1 y2 y3 y4 y5 y6 g2
            go_wp2_with fail
            go_roundw
            case rel =>
              refine ⟨k + 1, _, _, by omega, by go_num, by rw [List.length_append]; have := HL.out; simp; omega, ?_, HAW3.out⟩
              intro z hz
              rcases List.mem_append.1 hz with h | h
              · exact HQ.out z h
              · rw [List.mem_singleton.1 h]; exact HQX.out
            case measure => simp [intOf]; omega
        · have h3 : (x16 % 6 + 1 == 3) = false := by
            have : x16 % 6 + 1 = 1 := by simpa using h1
            simp; omega
          rcases ho : (bits BinOp.and IntKind.i64 odd 1 == 0) with _ | _
          · go_upto_if 61 with fail
            go_cut [10] (fun s10 wx => MadeN Q13 w vN ns (wr.heap.size + 1) s10 wx)
            case first =>
              go_wp2_with fail
              go_meet
              case rel => exact made_new (by have : x16 % 6 + 1 = 1 := (by simpa using h1); simp [Q13, strOfNums_size] <;> omega) HAW.out _
            case rest =>
              obtain ⟨q, hqx, rfl, hblk, haw⟩ := hcut
              obtain ⟨q0, q1, q2, q3, q4, q5, q6⟩ := q
              have y0 := hblk.cell 0
              have y1 := hblk.cell 1
              have y2 := hblk.cell 2
              have y3 := hblk.cell 3
              have y4 := hblk.cell 4
              have y5 := hblk.cell 5
              have y6 := hblk.cell 6
              have g2 := haw.gb.cell 2
              simp only [cellsN, List.getElem?_toArray, List.getElem?_cons_zero, List.getElem?_cons_succ] at y0 y1 y2 y3 y4 y5 y6 g2
              have HAW2 := Lib.hid haw
              have HQX := Lib.hid hqx
              have hns : ns.length ≤ 8 := by have := HL.out; omega
              have hszc := haw.sz
              clear hblk haw hqx
              go_wp2_with (at_builtin; refine wpList_append_lies _ rfl (.tmp 104) (.tmp 106) _ rfl (w.heap.size + 3) 55 i0 _ 7 64 Try.underlying41 hi0 hz0 hz1 hz2 rfl (by omega) _ _ _ rfl (HAW2.out.nodes.alloc _) ⟨wc.heap.size, 0, none⟩ 1 1 (cellsN ⟨q0, q1, q2, q3, q4, q5, q6⟩) rfl rfl (World.news_of_block (cs := (cellsN ⟨q0, q1, q2, q3, q4, q5, q6⟩).toArray) (t := 55) (fr := (0, 0)) (heap_alloc_new wc (.cells (cellsN ⟨q0, q1, q2, q3, q4, q5, q6⟩).toArray 55))) (by simp [cellsN, Value.oneCell']) (by omega) (by unfold maxLen; omega) (by omega) (by simp; omega) (wc.heap.size + 1) (by simp) ?_)
              intro gO capO w2 hown2 hgrow hat hlt3
              obtain ⟨c2, f2⟩ := (HAW2.out.alloc _).grownG hgrow
              have haw3 := (HAW2.out.alloc _).push (x := ⟨q0, q1, q2, q3, q4, q5, q6⟩) hgrow hown2
              have HAW3 := Lib.hid haw3
              clear haw3 hown2 hgrow hat hlt3 y0 y1 y2 y3 y4 y5 y6 g2
              go_wp2_with fail
              go_roundw
              case rel =>
                refine ⟨k + 1, _, _, by omega, by go_num, by rw [List.length_append]; have := HL.out; simp; omega, ?_, HAW3.out⟩
                intro z hz
                rcases List.mem_append.1 hz with h | h
                · exact HQ.out z h
                · rw [List.mem_singleton.1 h]; exact HQX.out
              case measure => simp [intOf]; omega
          · go_upto_if 61 with fail
            go_cut [10] (fun s10 wx => MadeN Q13 w vN ns (wr.heap.size + 1) s10 wx)
            case first =>
              go_wp2_with fail
              go_meet
              case rel => exact made_new (by simp [Q13, strOfNums_size] <;> omega) HAW.out _
            case rest =>
              obtain ⟨q, hqx, rfl, hblk, haw⟩ := hcut
              obtain ⟨q0, q1, q2, q3, q4, q5, q6⟩ := q
              have y0 := hblk.cell 0
              have y1 := hblk.cell 1
              have y2 := hblk.cell 2
              have y3 := hblk.cell 3
              have y4 := hblk.cell 4
              have y5 := hblk.cell 5
              have y6 := hblk.cell 6
              have g2 := haw.gb.cell 2
              simp only [cellsN, List.getElem?_toArray, List.getElem?_cons_zero, List.getElem?_cons_succ] at y0 y1 y2 y3 y4 y5 y6 g2
              have HAW2 := Lib.hid haw
              have HQX := Lib.hid hqx
              have hns : ns.length ≤ 8 := by have := HL.out; omega
              have hszc := haw.sz
              clear hblk haw hqx
              go_wp2_with (at_builtin; refine wpList_append_lies _ rfl (.tmp 104) (.tmp 106) _ rfl (w.heap.size + 3) 55 i0 _ 7 64 Try.underlying41 hi0 hz0 hz1 hz2 rfl (by omega) _ _ _ rfl (HAW2.out.nodes.alloc _) ⟨wc.heap.size, 0, none⟩ 1 1 (cellsN ⟨q0, q1, q2, q3, q4, q5, q6⟩) rfl rfl (World.news_of_block (cs := (cellsN ⟨q0, q1, q2, q3, q4, q5, q6⟩).toArray) (t := 55) (fr := (0, 0)) (heap_alloc_new wc (.cells (cellsN ⟨q0, q1, q2, q3, q4, q5, q6⟩).toArray 55))) (by simp [cellsN, Value.oneCell']) (by omega) (by unfold maxLen; omega) (by omega) (by simp; omega) (wc.heap.size + 1) (by simp) ?_)
              intro gO capO w2 hown2 hgrow hat hlt3
              obtain ⟨c2, f2⟩ := (HAW2.out.alloc _).grownG hgrow
              have haw3 := (HAW2.out.alloc _).push (x := ⟨q0, q1, q2, q3, q4, q5, q6⟩) hgrow hown2
              have HAW3 := Lib.hid haw3
              clear haw3 hown2 hgrow hat hlt3 y0 y1 y2 y3 y4 y5 y6 g2
              go_wp2_with fail
              go_roundw
              case rel =>
                refine ⟨k + 1, _, _, by omega, by go_num, by rw [List.length_append]; have := HL.out; simp; omega, ?_, HAW3.out⟩
                intro z hz
                rcases List.mem_append.1 hz with h | h
                · exact HQ.out z h
                · rw [List.mem_singleton.1 h]; exact HQX.out
              case measure => simp [intOf]; omega
      · have hk0i : ¬ (0 : Int) < k := by omega
        have hk0b : ((k : Int) == 0) = true := by
          have : (k : Int) = 0 := by omega
          simpa using this
        rcases ho : (bits BinOp.and IntKind.i64 odd 2 == 0) with _ | _
        · go_upto_if 61 with fail
          go_cut [10] (fun s10 wx => MadeN Q13 w vN ns (wr.heap.size + 1) s10 wx)
          case first =>
            rcases h3 : (x16 % 6 + 1 == 3) with _ | _
            · go_wp2_with fail
              go_meet
              case rel => exact made_new (by have : x16 % 6 + 1 ≠ 3 := (by simpa using h3); simp [Q13, strOfNums_size]; omega) HAW.out _
            · obtain ⟨va, va0, va1, vae⟩ : ∃ a, 0 ≤ a ∧ a ≤ 15 ∧ bits BinOp.and IntKind.i64 (x16 / 8) 15 = a := ⟨_, (am15 _).1, (am15 _).2, rfl⟩
              obtain ⟨vb, vb0, vb1, vbe⟩ : ∃ a, 0 ≤ a ∧ a ≤ 1 ∧ bits BinOp.and IntKind.i64 (x16 / 128) 1 = a := ⟨_, (am1 _).1, (am1 _).2, rfl⟩
              obtain ⟨vc, vc0, vc1, vce⟩ : ∃ a, 0 ≤ a ∧ a ≤ 1 ∧ bits BinOp.and IntKind.i64 (x16 / 256) 1 = a := ⟨_, (am1 _).1, (am1 _).2, rfl⟩
              obtain ⟨vd, vd0, vd1, vde⟩ : ∃ a, 0 ≤ a ∧ a ≤ 3 ∧ bits BinOp.and IntKind.i64 (x16 / 1024) 3 = a := ⟨_, (am3 _).1, (am3 _).2, rfl⟩
              obtain ⟨ve, ve0, ve1, vee⟩ : ∃ a, 0 ≤ a ∧ a ≤ 1 ∧ bits BinOp.and IntKind.i64 (x16 / 4096) 1 = a := ⟨_, (am1 _).1, (am1 _).2, rfl⟩
              obtain ⟨vf, vf0, vf1, vfe⟩ : ∃ a, 0 ≤ a ∧ a ≤ 1 ∧ bits BinOp.and IntKind.i64 (x16 / 8192) 1 = a := ⟨_, (am1 _).1, (am1 _).2, rfl⟩
              obtain ⟨vo, vo0, vo1, voe⟩ : ∃ a, 0 ≤ a ∧ a ≤ 15 ∧ bits BinOp.and IntKind.i64 odd 15 = a := ⟨_, (am15 _).1, (am15 _).2, rfl⟩
              rcases c5 : (ve == 1) with _ | _
              · rcases c8 : (vo == 8) with _ | _
                · rcases c9 : (vo == 9) with _ | _
                  · go_wp2_with fail
                    go_meet
                    case rel => exact made_new (by simp [Q13, strOfNums_size] <;> omega) HAW.out _
                  · go_wp2_with fail
                    go_meet
                    case rel => exact made_new (by simp [Q13, strOfNums_size] <;> omega) HAW.out _
                · have c9 : (vo == 9) = false := by
                    have : vo = 8 := by simpa using c8
                    simp [this]
                  go_wp2_with fail
                  go_meet
                  case rel => exact made_new (by simp [Q13, strOfNums_size] <;> omega) HAW.out _
              · rcases c8 : (vo == 8) with _ | _
                · rcases c9 : (vo == 9) with _ | _
                  · go_wp2_with fail
                    go_meet
                    case rel => exact made_new (by simp [Q13, strOfNums_size] <;> omega) HAW.out _
                  · go_wp2_with fail
                    go_meet
                    case rel => exact made_new (by simp [Q13, strOfNums_size] <;> omega) HAW.out _
                · have c9 : (vo == 9) = false := by
                    have : vo = 8 := by simpa using c8
                    simp [this]
                  go_wp2_with fail
                  go_meet
                  case rel => exact made_new (by simp [Q13, strOfNums_size] <;> omega) HAW.out _
          case rest =>
            obtain ⟨q, hqx, rfl, hblk, haw⟩ := hcut
            obtain ⟨q0, q1, q2, q3, q4, q5, q6⟩ := q
            have y0 := hblk.cell 0
            have y1 := hblk.cell 1
            have y2 := hblk.cell 2
            have y3 := hblk.cell 3
            have y4 := hblk.cell 4
            have y5 := hblk.cell 5
            have y6 := hblk.cell 6
            have g2 := haw.gb.cell 2
            simp only [cellsN, List.getElem?_toArray, List.getElem?_cons_zero, List.getElem?_cons_succ] at y0 y1 y2 y3 y4 y5 y6 g2
            have HAW2 := Lib.hid haw
            have HQX := Lib.hid hqx
            have hns : ns.length ≤ 8 := by have := HL.out; omega
            have hszc := haw.sz
            clear hblk haw hqx
            go_wp2_with (at_builtin; refine wpList_append_lies _ rfl (.tmp 104) (.tmp 106) _ rfl (w.heap.size + 3) 55 i0 _ 7 64 Try.underlying41 hi0 hz0 hz1 hz2 rfl (by omega) _ _ _ rfl (HAW2.out.nodes.alloc _) ⟨wc.heap.size, 0, none⟩ 1 1 (cellsN ⟨q0, q1, q2, q3, q4, q5, q6⟩) rfl rfl (World.news_of_block (cs := (cellsN ⟨q0, q1, q2, q3, q4, q5, q6⟩).toArray) (t := 55) (fr := (0, 0)) (heap_alloc_new wc (.cells (cellsN ⟨q0, q1, q2, q3, q4, q5, q6⟩).toArray 55))) (by simp [cellsN, Value.oneCell']) (by omega) (by unfold maxLen; omega) (by omega) (by simp; omega) (wc.heap.size + 1) (by simp) ?_)
            intro gO capO w2 hown2 hgrow hat hlt3
            obtain ⟨c2, f2⟩ := (HAW2.out.alloc _).grownG hgrow
            have haw3 := (HAW2.out.alloc _).push (x := ⟨q0, q1, q2, q3, q4, q5, q6⟩) hgrow hown2
            have HAW3 := Lib.hid haw3
            clear haw3 hown2 hgrow hat hlt3 y0 y1 y2 y3 y4 y5 y6 g2
            go_wp2_with fail
            go_roundw
            case rel =>
              refine ⟨k + 1, _, _, by omega, by go_num, by rw [List.length_append]; have := HL.out; simp; omega, ?_, HAW3.out⟩
              intro z hz
              rcases List.mem_append.1 hz with h | h
              · exact HQ.out z h
              · rw [List.mem_singleton.1 h]; exact HQX.out
            case measure => simp [intOf]; omega
        · go_upto_if 61 with fail
          go_cut [10] (fun s10 wx => MadeN Q13 w vN ns (wr.heap.size + 1) s10 wx)
          case first =>
            go_wp2_with fail
            go_meet
            case rel => exact made_new (by simp [Q13, strOfNums_size] <;> omega) HAW.out _
          case rest =>
            obtain ⟨q, hqx, rfl, hblk, haw⟩ := hcut
            obtain ⟨q0, q1, q2, q3, q4, q5, q6⟩ := q
            have y0 := hblk.cell 0
            have y1 := hblk.cell 1
            have y2 := hblk.cell 2
            have y3 := hblk.cell 3
            have y4 := hblk.cell 4
            have y5 := hblk.cell 5
            have y6 := hblk.cell 6
            have g2 := haw.gb.cell 2
            simp only [cellsN, List.getElem?_toArray, List.getElem?_cons_zero, List.getElem?_cons_succ] at y0 y1 y2 y3 y4 y5 y6 g2
            have HAW2 := Lib.hid haw
            have HQX := Lib.hid hqx
            have hns : ns.length ≤ 8 := by have := HL.out; omega
            have hszc := haw.sz
            clear hblk haw hqx
            go_wp2_with (at_builtin; refine wpList_append_lies _ rfl (.tmp 104) (.tmp 106) _ rfl (w.heap.size + 3) 55 i0 _ 7 64 Try.underlying41 hi0 hz0 hz1 hz2 rfl (by omega) _ _ _ rfl (HAW2.out.nodes.alloc _) ⟨wc.heap.size, 0, none⟩ 1 1 (cellsN ⟨q0, q1, q2, q3, q4, q5, q6⟩) rfl rfl (World.news_of_block (cs := (cellsN ⟨q0, q1, q2, q3, q4, q5, q6⟩).toArray) (t := 55) (fr := (0, 0)) (heap_alloc_new wc (.cells (cellsN ⟨q0, q1, q2, q3, q4, q5, q6⟩).toArray 55))) (by simp [cellsN, Value.oneCell']) (by omega) (by unfold maxLen; omega) (by omega) (by simp; omega) (wc.heap.size + 1) (by simp) ?_)
            intro gO capO w2 hown2 hgrow hat hlt3
            obtain ⟨c2, f2⟩ := (HAW2.out.alloc _).grownG hgrow
            have haw3 := (HAW2.out.alloc _).push (x := ⟨q0, q1, q2, q3, q4, q5, q6⟩) hgrow hown2
            have HAW3 := Lib.hid haw3
            clear haw3 hown2 hgrow hat hlt3 y0 y1 y2 y3 y4 y5 y6 g2
            go_wp2_with fail
            go_roundw
            case rel =>
              refine ⟨k + 1, _, _, by omega, by go_num, by rw [List.length_append]; have := HL.out; simp; omega, ?_, HAW3.out⟩
              intro z hz
              rcases List.mem_append.1 hz with h | h
              · exact HQ.out z h
              · rw [List.mem_singleton.1 h]; exact HQX.out
            case measure => simp [intOf]; omega
    · have hkn : k = nn := by omega
      subst hkn
      clear hk hlt
      go_wp2_with fail
      go_loopw [11] (fun iv wr => InAny2 w k m iv wr) (fun iv _ => 14 - (intOf iv).toNat)
      case atStart => exact ⟨0, vN, _, ns, [], by omega, by omega, rfl, HL.out, rfl, HQ.out, by simp, HAW.out⟩
      case round =>
        obtain ⟨j, vN, vE, ns, es, hj14, hjm, rfl, hl1, hl2, hq1, hq2, haw⟩ := hrel
        clear HAW HL HQ hsz
        obtain ⟨AN, cN, rfl, _, _⟩ := own_slice haw.nodes
        obtain ⟨AE, cE, rfl, _, _⟩ := own_slice haw.edges
        have HAW := Lib.hid haw
        have hsz := haw.sz
        have g3 := haw.gb.cell 3
        have g2 := haw.gb.cell 2
        have g1 := haw.gb.cell 1
        have g0 := haw.gb.cell 0
        have fr3 := haw.gb.frozen 3
        have fr2 := haw.gb.frozen 2
        have fr1 := haw.gb.frozen 1
        have fr0 := haw.gb.frozen 0
        simp only [List.getElem?_toArray, List.getElem?_cons_zero, List.getElem?_cons_succ] at g0 g1 g2 g3
        have HL1 := Lib.hid hl1
        have HL2 := Lib.hid hl2
        have HQ1 := Lib.hid hq1
        have HQ2 := Lib.hid hq2
        clear haw hl1 hl2 hq1 hq2
        by_cases hgo : j < m ∧ j < 14 ∧ 0 < k
        · obtain ⟨hjm1, hj141, hk0⟩ := hgo
          have hj14i : (j : Int) < 14 := by omega
          have hk0i : (0 : Int) < k := by omega
          have hkne : ¬ k = 0 := by omega
          have hjlt : j < ps.length := by have := HP.out; omega
          obtain ⟨b, o, rfl, hbl, hc1, hc2⟩ := HB.out j hjlt
          have x1 : wr.cell? ⟨b, o + j * 2, none⟩ = some (.int .i64 ps[j].1) := (HAW.out.bel.cell (p := ⟨b, o + j * 2, none⟩) hbl).trans hc1
          have x2 : wr.cell? ⟨b, o + j * 2 + 1, none⟩ = some (.int .i64 ps[j].2) := (HAW.out.bel.cell (p := ⟨b, o + j * 2 + 1, none⟩) hbl).trans hc2
          generalize ps[j].1 = e1 at x1
          generalize ps[j].2 = e2 at x2
          clear hc1 hc2
          obtain ⟨va, va0, va1, vae⟩ : ∃ a, 0 ≤ a ∧ a ≤ 255 ∧ bits BinOp.and IntKind.i64 e1 255 = a := ⟨_, (am255 _).1, (am255 _).2, rfl⟩
          obtain ⟨vb, vb0, vb1, vbe⟩ : ∃ a, 0 ≤ a ∧ a ≤ 255 ∧ bits BinOp.and IntKind.i64 e2 255 = a := ⟨_, (am255 _).1, (am255 _).2, rfl⟩
          have hE := HAW.out.edges
          have HE := Lib.hid hE
          have hsl : es.length ≤ 14 := by have := HL2.out; omega
          clear hE
          have nn3 := World.new_ne wr _ g3
          have nx1 := World.new_ne wr _ x1
          have nx2 := World.new_ne wr _ x2
          have hwlt : w.heap.size < wr.heap.size := by omega
          have hblt : b < wr.heap.size := by omega
          have ji0 : (0 : Int) ≤ j := by omega
          have ji1 : (j : Int) < m := by omega
          go_wp2_with fail
          go_region_law ((refine step_append_lies _ (by rfl) _ _ _ (by rfl) (w.heap.size + 3) 53 j0 _ 2 16 Try.underlying42 hj0 hy0 hy1 hy2 rfl (by omega) (.slice AE es.length cE) es.length (flatE es) (by rfl) ((HE.out.alloc _).drew) ⟨wr.heap.size, 0, none⟩ 1 1 [.int .i64 (va.tmod k), .int .i64 (vb.tmod k)] (by rfl) (by rfl) (World.news_of_block (cs := #[.int .i64 (va.tmod k), .int .i64 (vb.tmod k)]) (t := 53) (fr := (0, 0)) (heap_alloc_new wr (.cells #[.int .i64 (va.tmod k), .int .i64 (vb.tmod k)] 53))) (by simp [Value.oneCell']) (by omega) (by unfold maxLen; omega) (by omega) (by simp; omega) (wr.heap.size + 1) (by simp) ?_; intro gA capA w2 hown2 hgrow hat hlt3; have z0 := ((HAW.out.alloc (.cells #[.int .i64 (va.tmod k), .int .i64 (vb.tmod k)] 53)).drew).grownE hgrow))
          all_goals
            have haw3 := ((HAW.out.alloc (.cells #[.int .i64 (va.tmod k), .int .i64 (vb.tmod k)] 53)).drew).pushE (x := (va.tmod k, vb.tmod k)) hgrow hown2
            have HAW3 := Lib.hid haw3
            clear haw3 hown2 hgrow hat hlt3 z0
            go_wp2_with fail
            go_roundw
            case rel =>
              refine ⟨j + 1, _, _, ns, _, by omega, by omega, by go_num, HL1.out, by rw [List.length_append]; have := HL2.out; simp; omega, HQ1.out, ?_, HAW3.out⟩
              intro z hz
              rcases List.mem_append.1 hz with h | h
              · exact HQ2.out z h
              · rw [List.mem_singleton.1 h]
                exact ⟨Int.tmod_nonneg _ va0, Int.tmod_lt_of_pos _ hk0i, Int.tmod_nonneg _ vb0, Int.tmod_lt_of_pos _ hk0i⟩
            case measure => simp [intOf]; omega
        · by_cases c1 : j < m
          · by_cases c2 : (j : Int) < 14
            · have c3 : ¬ (0 : Int) < k := by omega
              go_wp2_with fail
              have hf : AnyW w (.slice AN ns.length cN) (.slice AE es.length cE) ns es ((((wr.setCell ⟨w.heap.size, 0, none⟩ (.slice (some ⟨w.heap.size + 1, 0, none⟩) 3 3)).setCell ⟨w.heap.size, 1, none⟩ (.slice (some ⟨w.heap.size + 1 + 1, 0, none⟩) 2 2)).setCell ⟨w.heap.size, 2, none⟩ (.slice AN ns.length cN)).setCell ⟨w.heap.size, 3, none⟩ (.slice AE es.length cE)) := (((HAW.out.setG 0 _ rfl).setG 1 _ rfl).setG 2 _ rfl).setG 3 _ rfl
              generalize ((((wr.setCell ⟨w.heap.size, 0, none⟩ (.slice (some ⟨w.heap.size + 1, 0, none⟩) 3 3)).setCell ⟨w.heap.size, 1, none⟩ (.slice (some ⟨w.heap.size + 1 + 1, 0, none⟩) 2 2)).setCell ⟨w.heap.size, 2, none⟩ (.slice AN ns.length cN)).setCell ⟨w.heap.size, 3, none⟩ (.slice AE es.length cE)) = wf at hf ⊢
              have q0 := hf.gb.cell 0
              have q1 := hf.gb.cell 1
              have q2 := hf.gb.cell 2
              have q3 := hf.gb.cell 3
              simp only [List.getElem?_toArray, List.getElem?_cons_zero, List.getElem?_cons_succ] at q0 q1 q2 q3
              exact bodyPost_ret (v := .agg #[.slice (some ⟨w.heap.size + 1, 0, none⟩) 3 3, .slice (some ⟨w.heap.size + 1 + 1, 0, none⟩) 2 2, .slice AN ns.length cN, .slice AE es.length cE]) (by simp [results, Try.results13, go_sem, q0, q1, q2, q3]) rfl ⟨_, _, ns, es, rfl, hf, by have := HL1.out; omega, by have := HL2.out; omega, HQ1.out, by rw [HL1.out]; exact HQ2.out⟩
            · go_wp2_with fail
              have hf : AnyW w (.slice AN ns.length cN) (.slice AE es.length cE) ns es ((((wr.setCell ⟨w.heap.size, 0, none⟩ (.slice (some ⟨w.heap.size + 1, 0, none⟩) 3 3)).setCell ⟨w.heap.size, 1, none⟩ (.slice (some ⟨w.heap.size + 1 + 1, 0, none⟩) 2 2)).setCell ⟨w.heap.size, 2, none⟩ (.slice AN ns.length cN)).setCell ⟨w.heap.size, 3, none⟩ (.slice AE es.length cE)) := (((HAW.out.setG 0 _ rfl).setG 1 _ rfl).setG 2 _ rfl).setG 3 _ rfl
              generalize ((((wr.setCell ⟨w.heap.size, 0, none⟩ (.slice (some ⟨w.heap.size + 1, 0, none⟩) 3 3)).setCell ⟨w.heap.size, 1, none⟩ (.slice (some ⟨w.heap.size + 1 + 1, 0, none⟩) 2 2)).setCell ⟨w.heap.size, 2, none⟩ (.slice AN ns.length cN)).setCell ⟨w.heap.size, 3, none⟩ (.slice AE es.length cE)) = wf at hf ⊢
              have q0 := hf.gb.cell 0
              have q1 := hf.gb.cell 1
              have q2 := hf.gb.cell 2
              have q3 := hf.gb.cell 3
              simp only [List.getElem?_toArray, List.getElem?_cons_zero, List.getElem?_cons_succ] at q0 q1 q2 q3
              exact bodyPost_ret (v := .agg #[.slice (some ⟨w.heap.size + 1, 0, none⟩) 3 3, .slice (some ⟨w.heap.size + 1 + 1, 0, none⟩) 2 2, .slice AN ns.length cN, .slice AE es.length cE]) (by simp [results, Try.results13, go_sem, q0, q1, q2, q3]) rfl ⟨_, _, ns, es, rfl, hf, by have := HL1.out; omega, by have := HL2.out; omega, HQ1.out, by rw [HL1.out]; exact HQ2.out⟩
          · go_wp2_with fail
            have hf : AnyW w (.slice AN ns.length cN) (.slice AE es.length cE) ns es ((((wr.setCell ⟨w.heap.size, 0, none⟩ (.slice (some ⟨w.heap.size + 1, 0, none⟩) 3 3)).setCell ⟨w.heap.size, 1, none⟩ (.slice (some ⟨w.heap.size + 1 + 1, 0, none⟩) 2 2)).setCell ⟨w.heap.size, 2, none⟩ (.slice AN ns.length cN)).setCell ⟨w.heap.size, 3, none⟩ (.slice AE es.length cE)) := (((HAW.out.setG 0 _ rfl).setG 1 _ rfl).setG 2 _ rfl).setG 3 _ rfl
            generalize ((((wr.setCell ⟨w.heap.size, 0, none⟩ (.slice (some ⟨w.heap.size + 1, 0, none⟩) 3 3)).setCell ⟨w.heap.size, 1, none⟩ (.slice (some ⟨w.heap.size + 1 + 1, 0, none⟩) 2 2)).setCell ⟨w.heap.size, 2, none⟩ (.slice AN ns.length cN)).setCell ⟨w.heap.size, 3, none⟩ (.slice AE es.length cE)) = wf at hf ⊢
            have q0 := hf.gb.cell 0
            have q1 := hf.gb.cell 1
            have q2 := hf.gb.cell 2
            have q3 := hf.gb.cell 3
            simp only [List.getElem?_toArray, List.getElem?_cons_zero, List.getElem?_cons_succ] at q0 q1 q2 q3
            exact bodyPost_ret (v := .agg #[.slice (some ⟨w.heap.size + 1, 0, none⟩) 3 3, .slice (some ⟨w.heap.size + 1 + 1, 0, none⟩) 2 2, .slice AN ns.length cN, .slice AE es.length cE]) (by simp [results, Try.results13, go_sem, q0, q1, q2, q3]) rfl ⟨_, _, ns, es, rfl, hf, by have := HL1.out; omega, by have := HL2.out; omega, HQ1.out, by rw [HL1.out]; exact HQ2.out⟩
end Go.Proofs.Yteoioboiniealaa
