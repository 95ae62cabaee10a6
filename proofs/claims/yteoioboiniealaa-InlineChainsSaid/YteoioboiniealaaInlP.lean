/- The walk of the law InlineChains. -/
import Derived.Test.YteoioboiniealaaInlQ
namespace Go.Proofs.Yteoioboiniealaa
open Go.RowKit
attribute [local go_sem ↓] Go.wp_at_zero Go.wp_at_succ
attribute [local go_sem] conv_new1

theorem lt_of (i : Nat) (h : i ≤ 5) : strOfNums [97 + (i : Int)] = ltS i := by
  have : i = 0 ∨ i = 1 ∨ i = 2 ∨ i = 3 ∨ i = 4 ∨ i = 5 := by omega
  rcases this with rfl | rfl | rfl | rfl | rfl | rfl <;> decide +kernel
theorem lt_of2 (i : Nat) (h : i ≤ 5) : strOfNums [97 + (i : Int) + 1] = ltS (i + 1) := by
  have : i = 0 ∨ i = 1 ∨ i = 2 ∨ i = 3 ∨ i = 4 ∨ i = 5 := by omega
  rcases this with rfl | rfl | rfl | rfl | rfl | rfl <;> decide +kernel
/-- What holds at each round's head. -/
def InCh (w : World) (k : Nat) (r : Bool) (iv : Value) (wr : World) : Prop := ∃ i : Nat, i ≤ k + 1 ∧ iv = .int .i64 i ∧ ∃ v cells, ChS w v i ((List.range i).map (chN k r)) cells wr
theorem chN_call {k i : Nat} {r : Bool} {s T : ByteArray} (hs : s = ltS i) (hT : T = toS k i) (h : i < k ∨ r = true) : chN k r i = chorQ s (chEndsQ s ++ [chCallQ s T]) := by
  unfold chN chorQ chItems chEndsQ chCallQ chCall
  rw [if_pos h, hs, hT]
theorem chN_plain {k i : Nat} {r : Bool} {s : ByteArray} (hs : s = ltS i) (h : ¬ (i < k ∨ r = true)) : chN k r i = chorQ s (chEndsQ s) := by
  unfold chN chorQ chItems chEndsQ
  rw [if_neg h, hs, List.append_nil]

theorem chainOk_spec {k : Nat} {o : Option (ChorD × Int)} (h : chainOk k o = true) : ∃ c, o = some (c, 0) ∧ c.flows.length = k + 1 ∧ c.flows[k]? = some (lastF k) := by
  cases o with
  | none => cases h
  | some x =>
    obtain ⟨c, e⟩ := x
    simp only [chainOk, Bool.and_eq_true, decide_eq_true_eq] at h
    obtain ⟨⟨rfl, h1⟩, h2⟩ := h
    refine ⟨c, rfl, h1, ?_⟩
    cases hf : c.flows[k]? with
    | none => rw [hf] at h2; cases h2
    | some f =>
      rw [hf] at h2
      simp only [sameF, Bool.and_eq_true, beq_iff_eq] at h2
      obtain ⟨⟨⟨q1, q2⟩, q3⟩, q4⟩ := h2
      have ext : ∀ a b : ByteArray, a.toList = b.toList → a = b := fun a b h => by
        rw [Lib.toList_data, Lib.toList_data] at h
        exact ByteArray.ext (Array.toList_inj.1 h)
      obtain ⟨i, s, d, m⟩ := f
      have e1 := ext _ _ q1
      have e2 := ext _ _ q2
      have e3 := ext _ _ q3
      have e4 := ext _ _ q4
      simp only at e1 e2 e3 e4
      rw [e1, e2, e3, e4]

set_option maxRecDepth 100000 in
set_option maxHeartbeats 8000000 in
theorem inlineChains_walk (a0 : Int) (a1 : Bool) (w : World) (_w0 : (Lit.int .i64 a0).wf = true) :
    Calls Try.prog 6 #[.int .i64 a0, .bool a1] w fun e w' => e = .returned (.bool true) ∧ Below w.heap.size w w' := by
  clear _w0
  obtain ⟨hk0, hk1⟩ := am3 a0
  obtain ⟨k3, hk3⟩ : ∃ k3 : Nat, bits BinOp.and IntKind.i64 a0 3 = (k3 : Int) := ⟨(bits BinOp.and IntKind.i64 a0 3).toNat, by omega⟩
  rw [hk3] at hk0 hk1
  obtain ⟨k, hk⟩ : ∃ k : Nat, k = k3 + 1 := ⟨_, rfl⟩
  have hK1 : 1 ≤ k := by omega
  have hK2 : k ≤ 4 := by omega
  have hkI : (k3 : Int) + 1 = (k : Int) := by omega
  have hkv : wrap64 (bits BinOp.and IntKind.i64 a0 3 + 1) = (k : Int) := by rw [hk3, hkI]; unfold wrap64; omega
  clear hk3 hk hkI hk0 hk1
  obtain ⟨W, hW⟩ : ∃ W, W = w.alloc (.cells #[.slice none 0 0, .slice none 0 0] 61) := ⟨_, rfl⟩
  have hX : ChS w (.slice none 0 0) 0 [] [] W := by
    rw [hW]
    exact ⟨(Below.refl _ _).alloc (Nat.le_refl _) _, Blk.new w _ _, World.ownsRow_nil _ _ _ _, by rw [List.flatMap_nil]; exact rdpl_nil.2 rfl⟩
  have HX := Lib.hid hX
  have HW := Lib.hid hW.symm
  obtain ⟨i0, hi0, hz0, hz1, hz2⟩ := info_parts infoItemC
  obtain ⟨c0, hc0, hy0, hy1, hy2⟩ := info_parts infoChorC
  clear hW hX
  go_enter Try.func6, Try.ntmps6
  go_upto_region 3 with fail
  rw [HW.out]
  simp only [hkv]
  go_wp2_with fail
  go_loopw [7] (fun iv wr => InCh w k a1 iv wr) (fun iv _ => (k + 1 - intOf iv).toNat)
  case atStart => exact ⟨0, by omega, rfl, _, _, HX.out⟩
  case round =>
    obtain ⟨i, hi, rfl, v, cells, hS⟩ := hrel
    have hszr := hS.bel.size
    have hszd := hS.bD.lt
    have HS := Lib.hid hS
    clear hS
    by_cases hle : i ≤ k
    · obtain ⟨s, hs⟩ : ∃ s, s = ltS i := ⟨_, rfl⟩
      obtain ⟨T, hT⟩ : ∃ T, T = toS k i := ⟨_, rfl⟩
      have hs5 : strOfNums [97 + (i : Int)] = s := by rw [hs]; exact lt_of i (by omega)
      have hsz : s.size = 1 := by rw [hs]; rfl
      have hTz : T.size = 1 := by rw [hT]; unfold toS; split <;> rfl
      have hT6 : i ≠ k → strOfNums [97 + (i : Int) + 1] = T := fun h => by rw [hT, lt_of2 i (by omega)]; unfold toS; rw [if_neg h]
      have hT7 : i = k → (⟨#[97]⟩ : ByteArray) = T := fun h => by rw [hT]; unfold toS; rw [if_pos h]; rfl
      have HSS := Lib.hid hs
      have HTT := Lib.hid hT
      have HT6 := Lib.hid hT6
      have HT7 := Lib.hid hT7
      have hleI : (i : Int) ≤ k := by omega
      clear hs hT hT6 hT7
      go_upto_region 7 with fail
      have hq1 : ∀ W, (Op.stringOp .add s ⟨#[112]⟩).run Try.prog W = .ok (.string (s ++ ⟨#[112]⟩)) W := fun W => run_string_add_sum W _ _ (by rw [hsz]; decide)
      have hq2 : ∀ W, (Op.stringOp .add s ⟨#[113]⟩).run Try.prog W = .ok (.string (s ++ ⟨#[113]⟩)) W := fun W => run_string_add_sum W _ _ (by rw [hsz]; decide)
      have hq3 : ∀ W, (Op.stringOp .add s ⟨#[102]⟩).run Try.prog W = .ok (.string (s ++ ⟨#[102]⟩)) W := fun W => run_string_add_sum W _ _ (by rw [hsz]; decide)
      go_cut [9] (fun v9 wx => ∃ g gP gF, v9 = .pointer (some ⟨g, 0, none⟩) ∧ NewC wr.heap.size g gP gF s (.slice none 0 0) wx ∧ Below wr.heap.size wr wx)
      case first =>
        go_wp2_with fail
        go_meet
        case rel =>
          refine ⟨wr.heap.size + 1 + 1 + 1, wr.heap.size + 1, wr.heap.size + 1 + 1, rfl, ⟨by omega, by omega, by omega, ?_, ?_, ?_⟩, ?_⟩
          · have := Blk.new (((wr.alloc (.cells #[.int .u8 (97 + i)] 5)).alloc (.cells #[.string (s ++ ⟨#[112]⟩), .string ⟨#[]⟩, .string (s ++ ⟨#[113]⟩), .string ⟨#[]⟩] 38)).alloc (.cells #[.string (s ++ ⟨#[102]⟩), .string (s ++ ⟨#[112]⟩), .string (s ++ ⟨#[113]⟩), .string ⟨#[109]⟩] 40)) 28 #[.string s, .slice (some ⟨wr.heap.size + 1, 0, none⟩) 2 2, .slice (some ⟨wr.heap.size + 1 + 1, 0, none⟩) 1 1, .slice none 0 0, .slice none 0 0]
            simpa using this
          · have := ((Blk.new (wr.alloc (.cells #[.int .u8 (97 + i)] 5)) 38 #[.string (s ++ ⟨#[112]⟩), .string ⟨#[]⟩, .string (s ++ ⟨#[113]⟩), .string ⟨#[]⟩]).alloc (.cells #[.string (s ++ ⟨#[102]⟩), .string (s ++ ⟨#[112]⟩), .string (s ++ ⟨#[113]⟩), .string ⟨#[109]⟩] 40)).alloc (.cells #[.string s, .slice (some ⟨wr.heap.size + 1, 0, none⟩) 2 2, .slice (some ⟨wr.heap.size + 1 + 1, 0, none⟩) 1 1, .slice none 0 0, .slice none 0 0] 28)
            simpa using this
          · have := (Blk.new ((wr.alloc (.cells #[.int .u8 (97 + i)] 5)).alloc (.cells #[.string (s ++ ⟨#[112]⟩), .string ⟨#[]⟩, .string (s ++ ⟨#[113]⟩), .string ⟨#[]⟩] 38)) 40 #[.string (s ++ ⟨#[102]⟩), .string (s ++ ⟨#[112]⟩), .string (s ++ ⟨#[113]⟩), .string ⟨#[109]⟩]).alloc (.cells #[.string s, .slice (some ⟨wr.heap.size + 1, 0, none⟩) 2 2, .slice (some ⟨wr.heap.size + 1 + 1, 0, none⟩) 1 1, .slice none 0 0, .slice none 0 0] 28)
            simpa using this
          · exact ((((Below.refl _ _).alloc (Nat.le_refl _) _).alloc (by simp) _).alloc (by simp; omega) _).alloc (by simp; omega) _
      case rest =>
        obtain ⟨g, gP, gF, rfl, hN, hbN⟩ := hcut
        obtain ⟨V1, rfl⟩ : ∃ V1, V1 = wc := ⟨_, rfl⟩
        have HN := Lib.hid hN
        have HB1 := Lib.hid hbN
        have hszN := hbN.size
        clear hN hbN
        go_upto_if 58 with fail
        go_cut [10] (fun v10 wx => v10 = .string T ∧ Below V1.heap.size V1 wx)
        case first =>
          by_cases hik : i = k
          · have hik1 : ((i : Int) == (k : Int)) = true := by simp; omega
            have hik2 := HT7.out hik
            have HIK := Lib.hid hik2
            clear hik hik2
            go_wp2_with fail
            go_meet
            case rel => exact ⟨by rw [HIK.out], (Below.refl _ _).alloc (Nat.le_refl _) _⟩
          · have hik1 : ((i : Int) == (k : Int)) = false := by simp; omega
            have hik2 := HT6.out hik
            have HIK := Lib.hid hik2
            clear hik hik2
            go_wp2_with fail
            go_meet
            case rel => exact ⟨by rw [HIK.out], (Below.refl _ _).alloc (Nat.le_refl _) _⟩
        case rest =>
          obtain ⟨rfl, hb2⟩ := hcut
          obtain ⟨V2, rfl⟩ : ∃ V2, V2 = wc := ⟨_, rfl⟩
          have HN2 := Lib.hid (HN.out.below hb2)
          have HB2 := Lib.hid (HB1.out.trans (hb2.mono hszN))
          have hsz2 := HB2.out.size
          clear hb2 HN HB1
          go_upto_region 11 with fail
          have hq4 : ∀ W, (Op.stringOp .add T ⟨#[112]⟩).run Try.prog W = .ok (.string (T ++ ⟨#[112]⟩)) W := fun W => run_string_add_sum W _ _ (by rw [hTz]; decide)
          have hq5 : ∀ W, (Op.stringOp .add T ⟨#[113]⟩).run Try.prog W = .ok (.string (T ++ ⟨#[113]⟩)) W := fun W => run_string_add_sum W _ _ (by rw [hTz]; decide)
          have hq6 : ∀ W, (Op.stringOp .add s ⟨#[120]⟩).run Try.prog W = .ok (.string (s ++ ⟨#[120]⟩)) W := fun W => run_string_add_sum W _ _ (by rw [hsz]; decide)
          have hq7 : ∀ W, (Op.stringOp .add s ⟨#[115]⟩).run Try.prog W = .ok (.string (s ++ ⟨#[115]⟩)) W := fun W => run_string_add_sum W _ _ (by rw [hsz]; decide)
          have hq8 : ∀ W, (Op.stringOp .add s ⟨#[101]⟩).run Try.prog W = .ok (.string (s ++ ⟨#[101]⟩)) W := fun W => run_string_add_sum W _ _ (by rw [hsz]; decide)
          go_cut [11] (fun v11 wx => v11 = .pointer (some ⟨V2.heap.size + 1, 0, none⟩) ∧ CallQ wr.heap.size V2.heap.size (V2.heap.size + 1) s T wx ∧ Below V2.heap.size V2 wx)
          case first =>
            go_wp2_with fail
            go_meet
            case rel =>
              refine ⟨rfl, ⟨hsz2, by omega, ?_, ?_⟩, ((Below.refl _ _).alloc (Nat.le_refl _) _).alloc (by simp) _⟩
              · exact (Blk.new V2 73 #[.string (T ++ ⟨#[112]⟩), .string (s ++ ⟨#[113]⟩), .string (T ++ ⟨#[113]⟩), .string (s ++ ⟨#[112]⟩)]).alloc _
              · have := Blk.new (V2.alloc (.cells #[.string (T ++ ⟨#[112]⟩), .string (s ++ ⟨#[113]⟩), .string (T ++ ⟨#[113]⟩), .string (s ++ ⟨#[112]⟩)] 73)) 33 #[.int .i64 8, .string (s ++ ⟨#[120]⟩), .string ⟨#[]⟩, .slice none 0 0, .slice none 0 0, .bool false, .string T, .slice (some ⟨V2.heap.size, 0, none⟩) 2 2, .slice none 0 0, .slice none 0 0]
                simpa using this
          case rest =>
            obtain ⟨rfl, hC3, hb3⟩ := hcut
            obtain ⟨V3, rfl⟩ : ∃ V3, V3 = wc := ⟨_, rfl⟩
            have HN3 := Lib.hid (HN2.out.below hb3)
            have HC3 := Lib.hid hC3
            have HB3 := Lib.hid (HB2.out.trans (hb3.mono hsz2))
            have hsz3 := HB3.out.size
            have hgC := hC3.bC.lt
            clear hb3 hC3 HN2
            have gc3 : V3.cell? ⟨g, 3, none⟩ = some (.slice none 0 0) := HN3.out.bg.cell 3
            have gf3 : V3.frozen? ⟨g, 3, none⟩ = false := HN3.out.bg.frozen 3
            have hgl := HN3.out.bg.lt
            go_upto_region 12 with fail
            go_cut [80] (fun v80 wx => v80 = .slice (some ⟨V3.heap.size, 0, none⟩) 2 2 ∧ NewC wr.heap.size g gP gF s (.slice (some ⟨V3.heap.size, 0, none⟩) 2 2) wx ∧ CallQ wr.heap.size V2.heap.size (V2.heap.size + 1) s T wx ∧ Blk wx V3.heap.size 33 #[.int .i64 1, .string (s ++ ⟨#[115]⟩), .string ⟨#[]⟩, .slice none 0 0, .slice none 0 0, .bool false, .string ⟨#[]⟩, .slice none 0 0, .slice none 0 0, .slice none 0 0, .int .i64 2, .string (s ++ ⟨#[101]⟩), .string ⟨#[]⟩, .slice none 0 0, .slice none 0 0, .bool false, .string ⟨#[]⟩, .slice none 0 0, .slice none 0 0, .slice none 0 0] ∧ Below wr.heap.size wr wx)
            case first =>
              go_wp2_with fail
              go_meet
              case rel => exact ⟨rfl, ends_step HN3.out HC3.out HB3.out (Nat.le_refl _)⟩
            case rest =>
              obtain ⟨rfl, hN4, hC4, hI4, hB4⟩ := hcut
              obtain ⟨V4, rfl⟩ : ∃ V4, V4 = wc := ⟨_, rfl⟩
              have HN4 := Lib.hid hN4
              have HC4 := Lib.hid hC4
              have HI4 := Lib.hid hI4
              have HB4 := Lib.hid hB4
              have hsz4 := hB4.size
              obtain ⟨gI, hgI⟩ : ∃ gI, gI = V3.heap.size := ⟨_, rfl⟩
              obtain ⟨gC, hgC4⟩ : ∃ gC, gC = V2.heap.size + 1 := ⟨_, rfl⟩
              have hne4 : gC ≠ gI := by omega
              have hgI4 : wr.heap.size ≤ gI := by omega
              clear hN4 hC4 hI4 hB4 gc3 gf3 hgl HN3 HC3
              rw [← hgI] at HN4 HI4
              rw [← hgC4] at HC4
              rw [← hgI, ← hgC4]
              have HgI := Lib.hid hgI
              have HgC := Lib.hid hgC4
              clear hgI hgC4 hgC
              have q0 : V4.cell? ⟨gC, 0, none⟩ = some (.int .i64 8) := HC4.out.bC.cell 0
              have q1 : V4.cell? ⟨gC, 1, none⟩ = some (.string (s ++ ⟨#[120]⟩)) := HC4.out.bC.cell 1
              have q2 : V4.cell? ⟨gC, 2, none⟩ = some (.string ⟨#[]⟩) := HC4.out.bC.cell 2
              have q3 : V4.cell? ⟨gC, 3, none⟩ = some (.slice none 0 0) := HC4.out.bC.cell 3
              have q4 : V4.cell? ⟨gC, 4, none⟩ = some (.slice none 0 0) := HC4.out.bC.cell 4
              have q5 : V4.cell? ⟨gC, 5, none⟩ = some (.bool false) := HC4.out.bC.cell 5
              have q6 : V4.cell? ⟨gC, 6, none⟩ = some (.string T) := HC4.out.bC.cell 6
              have q7 : V4.cell? ⟨gC, 7, none⟩ = some (.slice (some ⟨V2.heap.size, 0, none⟩) 2 2) := HC4.out.bC.cell 7
              have q8 : V4.cell? ⟨gC, 8, none⟩ = some (.slice none 0 0) := HC4.out.bC.cell 8
              have q9 : V4.cell? ⟨gC, 9, none⟩ = some (.slice none 0 0) := HC4.out.bC.cell 9
              have gc3 : V4.cell? ⟨g, 3, none⟩ = some (.slice (some ⟨gI, 0, none⟩) 2 2) := HN4.out.bg.cell 3
              have gl := HN4.out.bg.lt
              have gCl := HC4.out.bC.lt
              by_cases hcall : i < k ∨ a1 = true
              · have hch := Lib.hid (chN_call HSS.out HTT.out hcall)
                rcases Nat.lt_or_ge i k with hik | hik
                · have hikI : (i : Int) < k := by omega
                  clear hcall
                  go_wp2_with (at_builtin; refine wpList_append_lies _ rfl (.tmp 89) (.tmp 91) _ rfl wr.heap.size 33 i0 _ 10 184 Try.underlying25 hi0 hz0 hz1 hz2 rfl (by omega) (.slice (some ⟨gI, 0, none⟩) 2 2) 2 (endsQV s) rfl ((own_blkC HI4.out (by decide) rfl hgI4).alloc _) ⟨V4.heap.size, 0, none⟩ 1 1 [.int .i64 8, .string (s ++ ⟨#[120]⟩), .string ⟨#[]⟩, .slice none 0 0, .slice none 0 0, .bool false, .string T, .slice (some ⟨V2.heap.size, 0, none⟩) 2 2, .slice none 0 0, .slice none 0 0] rfl rfl (World.news_of_block (cs := #[.int .i64 8, .string (s ++ ⟨#[120]⟩), .string ⟨#[]⟩, .slice none 0 0, .slice none 0 0, .bool false, .string T, .slice (some ⟨V2.heap.size, 0, none⟩) 2 2, .slice none 0 0, .slice none 0 0]) (t := 33) (fr := (0, 0)) (heap_alloc_new V4 _)) (by simp [Value.oneCell']) (by omega) (by unfold maxLen; omega) (by omega) (by simp; omega) (V4.heap.size + 1) (by simp) ?_)
                  intro gA capA w2 hown2 hgrow2 hat2 hlt2
                  obtain ⟨hN5, hI5, hB5⟩ := three_step (W2 := w2) HN4.out HC4.out HI4.out hgI4 hne4 HB4.out (Nat.le_refl _) hown2 hgrow2
                  have hgB := (HN4.out.bg.alloc (.cells #[.int .i64 8, .string (s ++ ⟨#[120]⟩), .string ⟨#[]⟩, .slice none 0 0, .slice none 0 0, .bool false, .string T, .slice (some ⟨V2.heap.size, 0, none⟩) 2 2, .slice none 0 0, .slice none 0 0] 33)).grown hgrow2 (by intro e; injection e with e; have h1 := HN4.out.bg; rw [e] at h1; have h2 := h1.symm.trans HI4.out; injection h2 with h2; injection h2 with _ h3; exact absurd h3 (by decide))
                  have hg2 : w2.cell? ⟨g, 3, none⟩ = some (.slice (some ⟨gI, 0, none⟩) 2 2) := hgB.cell 3
                  have hg3 := hgB.frozen 3
                  have hgl2 := hgB.lt
                  have HN5 := Lib.hid hN5
                  have HI5 := Lib.hid hI5
                  have HB5 := Lib.hid hB5
                  clear hgB hN5 hI5 hB5 hown2 hgrow2 hat2 gc3 q0 q1 q2 q3 q4 q5 q6 q7 q8 q9
                  go_upto_region 15 with fail
                  obtain ⟨V5, hV5⟩ : ∃ V, V = w2.setCell ⟨g, 3, none⟩ (.slice (some ⟨gA, 0, none⟩) 3 capA) := ⟨_, rfl⟩
                  rw [← hV5] at HN5 HI5 HB5
                  rw [← hV5]
                  clear hV5 hg2 hg3 hgl2
                  have HS5 := Lib.hid (HS.out.below HB5.out)
                  have d1 : V5.cell? ⟨w.heap.size, 1, none⟩ = some v := HS5.out.bD.cell 1
                  have g0 : V5.cell? ⟨g, 0, none⟩ = some (.string s) := HN5.out.bg.cell 0
                  have g1 : V5.cell? ⟨g, 1, none⟩ = some (.slice (some ⟨gP, 0, none⟩) 2 2) := HN5.out.bg.cell 1
                  have g2 : V5.cell? ⟨g, 2, none⟩ = some (.slice (some ⟨gF, 0, none⟩) 1 1) := HN5.out.bg.cell 2
                  have g3 : V5.cell? ⟨g, 3, none⟩ = some (.slice (some ⟨gA, 0, none⟩) 3 capA) := HN5.out.bg.cell 3
                  have g4 : V5.cell? ⟨g, 4, none⟩ = some (.slice none 0 0) := HN5.out.bg.cell 4
                  have hszV := HS5.out.bel.size
                  have hlow := HS5.out.bD.lt
                  go_wp2_with (at_builtin; refine wpList_append_lies _ rfl (.tmp 95) (.tmp 97) _ rfl w.heap.size 28 c0 _ 5 112 Try.underlying59 hc0 hy0 hy1 hy2 rfl (by omega) v i cells rfl (HS5.out.own.alloc _) ⟨V5.heap.size, 0, none⟩ 1 1 [.string s, .slice (some ⟨gP, 0, none⟩) 2 2, .slice (some ⟨gF, 0, none⟩) 1 1, .slice (some ⟨gA, 0, none⟩) 3 capA, .slice none 0 0] rfl rfl (World.news_of_block (cs := #[.string s, .slice (some ⟨gP, 0, none⟩) 2 2, .slice (some ⟨gF, 0, none⟩) 1 1, .slice (some ⟨gA, 0, none⟩) 3 capA, .slice none 0 0]) (t := 28) (fr := (0, 0)) (heap_alloc_new V5 _)) (by simp [Value.oneCell']) (by omega) (by unfold maxLen; omega) (by omega) (by simp; omega) (V5.heap.size + 1) (by simp) ?_)
                  intro gB capB w6 hown6 hgrow6 hat6 hlt6
                  have hc6 := RdPL.keep (S := fun b => wr.heap.size ≤ b) (S' := fun b => b ≠ w.heap.size ∧ v.ownBlock ≠ some b) (w := V5) (w1 := V5) (fun b hb _ => ⟨rfl, by omega, fun e => by have := (HS.out.own.lt b e).2; omega⟩) _ _ (rdp_chor HN5.out HI5.out)
                  rw [← hch.out] at hc6
                  have hD6 := (HS5.out.bD.alloc (.cells #[.string s, .slice (some ⟨gP, 0, none⟩) 2 2, .slice (some ⟨gF, 0, none⟩) 1 1, .slice (some ⟨gA, 0, none⟩) 3 capA, .slice none 0 0] 28)).grown hgrow6 (Ne.symm (blk_own_ne HS5.out.own HS5.out.bD (by decide)))
                  have hS6 := HS5.out.push hc6 hown6 hgrow6 hat6
                  have HS6 := Lib.hid hS6
                  have e1 : w6.cell? ⟨w.heap.size, 1, none⟩ = some v := hD6.cell 1
                  have e2 := hD6.frozen 1
                  have e3 := hD6.lt
                  have hls : (List.range (i + 1)).map (chN k a1) = (List.range i).map (chN k a1) ++ [chN k a1 i] := by rw [List.range_succ, List.map_append]; rfl
                  have HLS := Lib.hid hls
                  clear hc6 hD6 hS6 hown6 hgrow6 hat6 d1 g0 g1 g2 g3 g4 hls
                  go_wp2_with fail
                  go_roundw
                  case rel => exact ⟨i + 1, by omega, by go_num, _, _, by rw [HLS.out]; exact HS6.out⟩
                  case measure => simp [intOf]; omega
                · have ha1 : a1 = true := by
                    rcases hcall with h | h
                    · omega
                    · exact h
                  have hikI : ¬ (i : Int) < k := by omega
                  clear hcall
                  subst ha1
                  go_wp2_with (at_builtin; refine wpList_append_lies _ rfl (.tmp 89) (.tmp 91) _ rfl wr.heap.size 33 i0 _ 10 184 Try.underlying25 hi0 hz0 hz1 hz2 rfl (by omega) (.slice (some ⟨gI, 0, none⟩) 2 2) 2 (endsQV s) rfl ((own_blkC HI4.out (by decide) rfl hgI4).alloc _) ⟨V4.heap.size, 0, none⟩ 1 1 [.int .i64 8, .string (s ++ ⟨#[120]⟩), .string ⟨#[]⟩, .slice none 0 0, .slice none 0 0, .bool false, .string T, .slice (some ⟨V2.heap.size, 0, none⟩) 2 2, .slice none 0 0, .slice none 0 0] rfl rfl (World.news_of_block (cs := #[.int .i64 8, .string (s ++ ⟨#[120]⟩), .string ⟨#[]⟩, .slice none 0 0, .slice none 0 0, .bool false, .string T, .slice (some ⟨V2.heap.size, 0, none⟩) 2 2, .slice none 0 0, .slice none 0 0]) (t := 33) (fr := (0, 0)) (heap_alloc_new V4 _)) (by simp [Value.oneCell']) (by omega) (by unfold maxLen; omega) (by omega) (by simp; omega) (V4.heap.size + 1) (by simp) ?_)
                  intro gA capA w2 hown2 hgrow2 hat2 hlt2
                  obtain ⟨hN5, hI5, hB5⟩ := three_step (W2 := w2) HN4.out HC4.out HI4.out hgI4 hne4 HB4.out (Nat.le_refl _) hown2 hgrow2
                  have hgB := (HN4.out.bg.alloc (.cells #[.int .i64 8, .string (s ++ ⟨#[120]⟩), .string ⟨#[]⟩, .slice none 0 0, .slice none 0 0, .bool false, .string T, .slice (some ⟨V2.heap.size, 0, none⟩) 2 2, .slice none 0 0, .slice none 0 0] 33)).grown hgrow2 (by intro e; injection e with e; have h1 := HN4.out.bg; rw [e] at h1; have h2 := h1.symm.trans HI4.out; injection h2 with h2; injection h2 with _ h3; exact absurd h3 (by decide))
                  have hg2 : w2.cell? ⟨g, 3, none⟩ = some (.slice (some ⟨gI, 0, none⟩) 2 2) := hgB.cell 3
                  have hg3 := hgB.frozen 3
                  have hgl2 := hgB.lt
                  have HN5 := Lib.hid hN5
                  have HI5 := Lib.hid hI5
                  have HB5 := Lib.hid hB5
                  clear hgB hN5 hI5 hB5 hown2 hgrow2 hat2 gc3 q0 q1 q2 q3 q4 q5 q6 q7 q8 q9
                  go_upto_region 15 with fail
                  obtain ⟨V5, hV5⟩ : ∃ V, V = w2.setCell ⟨g, 3, none⟩ (.slice (some ⟨gA, 0, none⟩) 3 capA) := ⟨_, rfl⟩
                  rw [← hV5] at HN5 HI5 HB5
                  rw [← hV5]
                  clear hV5 hg2 hg3 hgl2
                  have HS5 := Lib.hid (HS.out.below HB5.out)
                  have d1 : V5.cell? ⟨w.heap.size, 1, none⟩ = some v := HS5.out.bD.cell 1
                  have g0 : V5.cell? ⟨g, 0, none⟩ = some (.string s) := HN5.out.bg.cell 0
                  have g1 : V5.cell? ⟨g, 1, none⟩ = some (.slice (some ⟨gP, 0, none⟩) 2 2) := HN5.out.bg.cell 1
                  have g2 : V5.cell? ⟨g, 2, none⟩ = some (.slice (some ⟨gF, 0, none⟩) 1 1) := HN5.out.bg.cell 2
                  have g3 : V5.cell? ⟨g, 3, none⟩ = some (.slice (some ⟨gA, 0, none⟩) 3 capA) := HN5.out.bg.cell 3
                  have g4 : V5.cell? ⟨g, 4, none⟩ = some (.slice none 0 0) := HN5.out.bg.cell 4
                  have hszV := HS5.out.bel.size
                  have hlow := HS5.out.bD.lt
                  go_wp2_with (at_builtin; refine wpList_append_lies _ rfl (.tmp 95) (.tmp 97) _ rfl w.heap.size 28 c0 _ 5 112 Try.underlying59 hc0 hy0 hy1 hy2 rfl (by omega) v i cells rfl (HS5.out.own.alloc _) ⟨V5.heap.size, 0, none⟩ 1 1 [.string s, .slice (some ⟨gP, 0, none⟩) 2 2, .slice (some ⟨gF, 0, none⟩) 1 1, .slice (some ⟨gA, 0, none⟩) 3 capA, .slice none 0 0] rfl rfl (World.news_of_block (cs := #[.string s, .slice (some ⟨gP, 0, none⟩) 2 2, .slice (some ⟨gF, 0, none⟩) 1 1, .slice (some ⟨gA, 0, none⟩) 3 capA, .slice none 0 0]) (t := 28) (fr := (0, 0)) (heap_alloc_new V5 _)) (by simp [Value.oneCell']) (by omega) (by unfold maxLen; omega) (by omega) (by simp; omega) (V5.heap.size + 1) (by simp) ?_)
                  intro gB capB w6 hown6 hgrow6 hat6 hlt6
                  have hc6 := RdPL.keep (S := fun b => wr.heap.size ≤ b) (S' := fun b => b ≠ w.heap.size ∧ v.ownBlock ≠ some b) (w := V5) (w1 := V5) (fun b hb _ => ⟨rfl, by omega, fun e => by have := (HS.out.own.lt b e).2; omega⟩) _ _ (rdp_chor HN5.out HI5.out)
                  rw [← hch.out] at hc6
                  have hD6 := (HS5.out.bD.alloc (.cells #[.string s, .slice (some ⟨gP, 0, none⟩) 2 2, .slice (some ⟨gF, 0, none⟩) 1 1, .slice (some ⟨gA, 0, none⟩) 3 capA, .slice none 0 0] 28)).grown hgrow6 (Ne.symm (blk_own_ne HS5.out.own HS5.out.bD (by decide)))
                  have hS6 := HS5.out.push hc6 hown6 hgrow6 hat6
                  have HS6 := Lib.hid hS6
                  have e1 : w6.cell? ⟨w.heap.size, 1, none⟩ = some v := hD6.cell 1
                  have e2 := hD6.frozen 1
                  have e3 := hD6.lt
                  have hls : (List.range (i + 1)).map (chN k true) = (List.range i).map (chN k true) ++ [chN k true i] := by rw [List.range_succ, List.map_append]; rfl
                  have HLS := Lib.hid hls
                  clear hc6 hD6 hS6 hown6 hgrow6 hat6 d1 g0 g1 g2 g3 g4 hls
                  go_wp2_with fail
                  go_roundw
                  case rel => exact ⟨i + 1, by omega, by go_num, _, _, by rw [HLS.out]; exact HS6.out⟩
                  case measure => simp [intOf]; omega
              · have hch := Lib.hid (chN_plain HSS.out hcall)
                have ha1 : a1 = false := by
                  cases a1 with
                  | false => rfl
                  | true => exact absurd (.inr rfl) hcall
                have hikI : ¬ (i : Int) < k := fun h => hcall (.inl (by omega))
                clear hcall
                subst ha1
                have HN5 := HN4
                have HI5 := Lib.hid (rdp_ends (s := s) hgI4 HI4.out)
                have HB5 := HB4
                obtain ⟨V5, rfl⟩ : ∃ V5, V5 = V4 := ⟨_, rfl⟩
                clear q0 q1 q2 q3 q4 q5 q6 q7 q8 q9
                go_upto_region 15 with fail
                have HS5 := Lib.hid (HS.out.below HB5.out)
                have d1 : V5.cell? ⟨w.heap.size, 1, none⟩ = some v := HS5.out.bD.cell 1
                have g0 : V5.cell? ⟨g, 0, none⟩ = some (.string s) := HN5.out.bg.cell 0
                have g1 : V5.cell? ⟨g, 1, none⟩ = some (.slice (some ⟨gP, 0, none⟩) 2 2) := HN5.out.bg.cell 1
                have g2 : V5.cell? ⟨g, 2, none⟩ = some (.slice (some ⟨gF, 0, none⟩) 1 1) := HN5.out.bg.cell 2
                have g3 : V5.cell? ⟨g, 3, none⟩ = some (.slice (some ⟨gI, 0, none⟩) 2 2) := HN5.out.bg.cell 3
                have g4 : V5.cell? ⟨g, 4, none⟩ = some (.slice none 0 0) := HN5.out.bg.cell 4
                have hszV := HS5.out.bel.size
                have hlow := HS5.out.bD.lt
                go_wp2_with (at_builtin; refine wpList_append_lies _ rfl (.tmp 95) (.tmp 97) _ rfl w.heap.size 28 c0 _ 5 112 Try.underlying59 hc0 hy0 hy1 hy2 rfl (by omega) v i cells rfl (HS5.out.own.alloc _) ⟨V5.heap.size, 0, none⟩ 1 1 [.string s, .slice (some ⟨gP, 0, none⟩) 2 2, .slice (some ⟨gF, 0, none⟩) 1 1, .slice (some ⟨gI, 0, none⟩) 2 2, .slice none 0 0] rfl rfl (World.news_of_block (cs := #[.string s, .slice (some ⟨gP, 0, none⟩) 2 2, .slice (some ⟨gF, 0, none⟩) 1 1, .slice (some ⟨gI, 0, none⟩) 2 2, .slice none 0 0]) (t := 28) (fr := (0, 0)) (heap_alloc_new V5 _)) (by simp [Value.oneCell']) (by omega) (by unfold maxLen; omega) (by omega) (by simp; omega) (V5.heap.size + 1) (by simp) ?_)
                intro gB capB w6 hown6 hgrow6 hat6 hlt6
                have hc6 := RdPL.keep (S := fun b => wr.heap.size ≤ b) (S' := fun b => b ≠ w.heap.size ∧ v.ownBlock ≠ some b) (w := V5) (w1 := V5) (fun b hb _ => ⟨rfl, by omega, fun e => by have := (HS.out.own.lt b e).2; omega⟩) _ _ (rdp_chor HN5.out HI5.out)
                rw [← hch.out] at hc6
                have hD6 := (HS5.out.bD.alloc (.cells #[.string s, .slice (some ⟨gP, 0, none⟩) 2 2, .slice (some ⟨gF, 0, none⟩) 1 1, .slice (some ⟨gI, 0, none⟩) 2 2, .slice none 0 0] 28)).grown hgrow6 (Ne.symm (blk_own_ne HS5.out.own HS5.out.bD (by decide)))
                have hS6 := HS5.out.push hc6 hown6 hgrow6 hat6
                have HS6 := Lib.hid hS6
                have e1 : w6.cell? ⟨w.heap.size, 1, none⟩ = some v := hD6.cell 1
                have e2 := hD6.frozen 1
                have e3 := hD6.lt
                have hls : (List.range (i + 1)).map (chN k false) = (List.range i).map (chN k false) ++ [chN k false i] := by rw [List.range_succ, List.map_append]; rfl
                have HLS := Lib.hid hls
                clear hc6 hD6 hS6 hown6 hgrow6 hat6 d1 g0 g1 g2 g3 g4 hls
                go_wp2_with fail
                go_roundw
                case rel => exact ⟨i + 1, by omega, by go_num, _, _, by rw [HLS.out]; exact HS6.out⟩
                case measure => simp [intOf]; omega
    · have hki : i = k + 1 := by omega
      have HKI := Lib.hid hki
      have hleI : ¬ (i : Int) ≤ k := by omega
      clear hki
      have hlen : ((List.range i).map (chN k a1)).length = i := by simp
      have hchs : Rd wr (chorsD (chD k a1).chors) v := by
        have := HS.out.chors hlen
        rw [HKI.out] at this
        exact this
      have HCH := Lib.hid hchs
      have d0 : wr.cell? ⟨w.heap.size, 0, none⟩ = some (.slice none 0 0) := HS.out.bD.cell 0
      have d1 : wr.cell? ⟨w.heap.size, 1, none⟩ = some v := HS.out.bD.cell 1
      have HBR := Lib.hid HS.out.bel
      clear hchs hlen HS
      obtain ⟨r, hr⟩ : ∃ r, r = a1 := ⟨_, rfl⟩
      rcases a1 with _ | _
      · obtain ⟨hok, hsm, hct⟩ := chain_ok k hK1 hK2
        obtain ⟨c, hF, hfl, hfk⟩ := chainOk_spec hok
        have HSM := Lib.hid hsm
        have HCT := Lib.hid hct
        have HFK := Lib.hid hfk
        have HF := Lib.hid hF
        have HFL := Lib.hid hfl
        clear hok hsm hct hfk hF hfl hr r
        go_wp2_with fail
        refine (chor_small (d := chD k false) 20 rd_nil HCH.out HF.out HSM.out HCT.out (by decide)).mono ?_
        rintro e w4 ⟨vP, vF, vI, vS, rfl, ⟨hP, hF2, hI, hS⟩, hb4⟩
        obtain ⟨AF, cF, rfl, hcF1, hcF2, hat⟩ := rd_at flowC_len hF2
        obtain ⟨b, vs, rfl, hbl, hvl, hvs, hcell⟩ := hat k (by have := HFL.out; omega)
        have hfk2 : c.flows[k]'(by have := HFL.out; omega) = lastF k := by
          have := HFK.out
          rw [List.getElem?_eq_getElem (by have := HFL.out; omega)] at this
          injection this
        rw [hfk2] at hvs
        obtain rfl := rd_flowC hvs
        obtain ⟨AP, cP, _, rfl, _, _⟩ := rd_sl.1 hP
        obtain ⟨AI, cI, _, rfl, _, _⟩ := rd_sl.1 hI
        obtain ⟨AS, cS, _, rfl, _, _⟩ := rd_sl.1 hS
        rw [HFL.out] at *
        have HB4 := Lib.hid (HBR.out.trans (hb4.mono HBR.out.size))
        obtain ⟨fl, hfl⟩ : ∃ fl, fl = lastF k := ⟨_, rfl⟩
        rw [← hfl] at hcell
        have HFLD := Lib.hid hfl
        have x0 : w4.cell? ⟨b, k * 4, none⟩ = some (.string fl.id) := hcell 0 (by omega)
        have x1 : w4.cell? ⟨b, k * 4 + 1, none⟩ = some (.string fl.src) := hcell 1 (by omega)
        have x2 : w4.cell? ⟨b, k * 4 + 2, none⟩ = some (.string fl.dst) := hcell 2 (by omega)
        have x3 : w4.cell? ⟨b, k * 4 + 3, none⟩ = some (.string fl.msg) := hcell 3 (by omega)
        have hsz4 := HB4.out.size
        clear hP hF2 hI hS hb4 hat hcell hvs hfk2 hfl d0 d1
        have hzz : ∀ j, j ≤ 4 → (pathS j).size = 3 * j := fun j hj => by
          have : j = 0 ∨ j = 1 ∨ j = 2 ∨ j = 3 ∨ j = 4 := by omega
          rcases this with rfl | rfl | rfl | rfl | rfl <;> decide +kernel
        have HZZ := Lib.hid hzz
        clear hzz
        go_wp2_with fail
        obtain ⟨V5, hV5⟩ : ∃ V, V = w4.alloc (.cells #[.string c.id, .slice AP c.parts.length cP, .slice (some ⟨b, 0, none⟩) (k + 1) cF, .slice AI c.items.length cI, .slice AS c.seqs.length cS] 28) := ⟨_, rfl⟩
        have hC5 : Blk V5 w4.heap.size 28 #[.string c.id, .slice AP c.parts.length cP, .slice (some ⟨b, 0, none⟩) (k + 1) cF, .slice AI c.items.length cI, .slice AS c.seqs.length cS] := by rw [hV5]; exact Blk.new w4 _ _
        have hb45 : Below w4.heap.size w4 V5 := by rw [hV5]; exact (Below.refl _ _).alloc (Nat.le_refl _) _
        have HC5 := Lib.hid hC5
        have HB45 := Lib.hid hb45
        rw [← hV5]
        have hz5 := hC5.lt
        clear hV5 hC5 hb45
        go_loopw [14, 15] (fun pv jv wr2 => ∃ j : Nat, j ≤ k ∧ jv = .int .i64 j ∧ (∃ p, pv = .string p ∧ Hid (p = pathS j)) ∧ Below V5.heap.size V5 wr2) (fun _ jv _ => (k - intOf jv).toNat)
        case atStart => exact ⟨0, by omega, rfl, ⟨_, rfl, rfl⟩, Below.refl _ _⟩
        case round =>
          obtain ⟨j, hj, rfl, ⟨p, rfl, hp⟩, hb6⟩ := hrel
          have hpz : p.size = 3 * j := by rw [hp.out]; exact HZZ.out j (by omega)
          have hsz6 := hb6.size
          have HB6 := Lib.hid hb6
          clear hb6
          by_cases hjk : j < k
          · obtain ⟨s, hs⟩ : ∃ s, s = ltS j := ⟨_, rfl⟩
            have hs5 : strOfNums [97 + (j : Int)] = s := by rw [hs]; exact lt_of j (by omega)
            have hsz : s.size = 1 := by rw [hs]; rfl
            have hjI : (j : Int) < k := by omega
            have hqa : ∀ W, (Op.stringOp .add s ⟨#[120, 46]⟩).run Try.prog W = .ok (.string (s ++ ⟨#[120, 46]⟩)) W := fun W => run_string_add_sum W _ _ (by rw [hsz]; decide)
            have hsz2 : (s ++ ⟨#[120, 46]⟩ : ByteArray).size = 3 := by rw [hs]; rfl
            have hqb : ∀ W, (Op.stringOp .add p (s ++ ⟨#[120, 46]⟩)).run Try.prog W = .ok (.string (p ++ (s ++ ⟨#[120, 46]⟩))) W := fun W => run_string_add_sum W _ _ (by rw [hsz2, hpz]; omega)
            have hnext : p ++ (s ++ ⟨#[120, 46]⟩) = pathS (j + 1) := by
              rw [hp.out, hs]
              unfold pathS
              rw [List.range_succ, List.foldl_append]
              show _ = _ ++ ltS j ++ ⟨#[120, 46]⟩
              rw [ByteArray.append_assoc]
            have HNX := Lib.hid hnext
            clear hs hnext hpz hsz2
            go_wp2_with fail
            go_roundw
            case rel => exact ⟨j + 1, by omega, by go_num, ⟨_, rfl, HNX⟩, HB6.out.alloc hsz6 _⟩
            case measure => simp [intOf]; omega
          · have hjk2 : j = k := by omega
            subst hjk2
            have hjI : ¬ (j : Int) < j := by omega
            obtain ⟨s, hs⟩ : ∃ s, s = ltS j := ⟨_, rfl⟩
            have hs5 : strOfNums [97 + (j : Int)] = s := by rw [hs]; exact lt_of j (by omega)
            have hsz : s.size = 1 := by rw [hs]; rfl
            have hband : bits BinOp.and IntKind.i64 (j : Int) 1 = ((j % 2 : Nat) : Int) := by
              have : j = 1 ∨ j = 2 ∨ j = 3 ∨ j = 4 := by omega
              rcases this with rfl | rfl | rfl | rfl <;> decide +kernel
            have hid1 : p ++ s ++ ⟨#[102]⟩ = fl.id := by rw [HFLD.out, hp.out, hs]; rfl
            have hmsg : fl.msg = ⟨#[109]⟩ := by rw [HFLD.out]; rfl
            have hqc : ∀ W, (Op.stringOp .add p s).run Try.prog W = .ok (.string (p ++ s)) W := fun W => run_string_add_sum W _ _ (by rw [hsz, hpz]; omega)
            have hps : (p ++ s).size = 3 * j + 1 := by rw [ByteArray.size_append, hpz, hsz]
            have hqd : ∀ W, (Op.stringOp .add (p ++ s) ⟨#[102]⟩).run Try.prog W = .ok (.string (p ++ s ++ ⟨#[102]⟩)) W := fun W => run_string_add_sum W _ _ (by rw [hps]; show 3 * j + 1 + 1 ≤ _; omega)
            rw [hid1] at hqd
            rw [hmsg] at x3
            have hB := HB45.out.trans (HB6.out.mono (by have := HB45.out.size; exact this))
            have HB46 := Lib.hid hB
            have hsz46 := hB.size
            have hx := HC5.out.below HB6.out hz5
            have f2 : wr.cell? ⟨w4.heap.size, 2, none⟩ = some (.slice (some ⟨b, 0, none⟩) (j + 1) cF) := hx.cell 2
            have hxl := hx.lt
            have HX2 := Lib.hid hx
            have HPS := Lib.hid hps
            have hj2 : j % 2 = 0 ∨ j % 2 = 1 := by omega
            obtain ⟨S1, hS1⟩ : ∃ S, S = p ++ s := ⟨_, rfl⟩
            rw [← hS1] at hqc hqd
            clear hx hB hid1 hps hS1 hpz hmsg hs hsz
            rcases hj2 with hj2 | hj2
            · rw [hj2] at hband
              have hsrc : fl.src.toList = [97, 112] := by rw [HFLD.out]; show (if j % 2 = 1 then (⟨#[97, 113]⟩ : ByteArray) else ⟨#[97, 112]⟩).toList = _; rw [hj2]; decide +kernel
              have hdst : fl.dst.toList = [97, 113] := by rw [HFLD.out]; show (if j % 2 = 1 then (⟨#[97, 112]⟩ : ByteArray) else ⟨#[97, 113]⟩).toList = _; rw [hj2]; decide +kernel
              go_wp2_with fail
              refine (inl_awake _).mono ?_
              rintro e w7 ⟨rfl, hb7⟩
              have hb67 := (HB46.out.alloc hsz46 (.cells #[.int .u8 (97 + (j : Int))] 5)).trans (hb7.mono (by simp; omega))
              have q2 : w7.cell? ⟨w4.heap.size, 2, none⟩ = some (.slice (some ⟨b, 0, none⟩) (j + 1) cF) := ((HX2.out.alloc _).below hb7 (by simp; omega)).cell 2
              have y0 : w7.cell? ⟨b, j * 4, none⟩ = some (.string fl.id) := (hb67.cell (p := ⟨b, j * 4, none⟩) hbl).trans x0
              have y1 : w7.cell? ⟨b, j * 4 + 1, none⟩ = some (.string fl.src) := (hb67.cell (p := ⟨b, j * 4 + 1, none⟩) hbl).trans x1
              have y2 : w7.cell? ⟨b, j * 4 + 2, none⟩ = some (.string fl.dst) := (hb67.cell (p := ⟨b, j * 4 + 2, none⟩) hbl).trans x2
              have y3 : w7.cell? ⟨b, j * 4 + 3, none⟩ = some (.string ⟨#[109]⟩) := (hb67.cell (p := ⟨b, j * 4 + 3, none⟩) hbl).trans x3
              have HB67 := Lib.hid hb67
              clear hb67 hb7
              go_wp2_with fail
              go_ret
              exact ⟨rfl, HB4.out.trans (HB67.out.mono hsz4)⟩
            · rw [hj2] at hband
              have hsrc : fl.src.toList = [97, 113] := by rw [HFLD.out]; show (if j % 2 = 1 then (⟨#[97, 113]⟩ : ByteArray) else ⟨#[97, 112]⟩).toList = _; rw [hj2]; decide +kernel
              have hdst : fl.dst.toList = [97, 112] := by rw [HFLD.out]; show (if j % 2 = 1 then (⟨#[97, 112]⟩ : ByteArray) else ⟨#[97, 113]⟩).toList = _; rw [hj2]; decide +kernel
              go_wp2_with fail
              refine (inl_awake _).mono ?_
              rintro e w7 ⟨rfl, hb7⟩
              have hb67 := (HB46.out.alloc hsz46 (.cells #[.int .u8 (97 + (j : Int))] 5)).trans (hb7.mono (by simp; omega))
              have q2 : w7.cell? ⟨w4.heap.size, 2, none⟩ = some (.slice (some ⟨b, 0, none⟩) (j + 1) cF) := ((HX2.out.alloc _).below hb7 (by simp; omega)).cell 2
              have y0 : w7.cell? ⟨b, j * 4, none⟩ = some (.string fl.id) := (hb67.cell (p := ⟨b, j * 4, none⟩) hbl).trans x0
              have y1 : w7.cell? ⟨b, j * 4 + 1, none⟩ = some (.string fl.src) := (hb67.cell (p := ⟨b, j * 4 + 1, none⟩) hbl).trans x1
              have y2 : w7.cell? ⟨b, j * 4 + 2, none⟩ = some (.string fl.dst) := (hb67.cell (p := ⟨b, j * 4 + 2, none⟩) hbl).trans x2
              have y3 : w7.cell? ⟨b, j * 4 + 3, none⟩ = some (.string ⟨#[109]⟩) := (hb67.cell (p := ⟨b, j * 4 + 3, none⟩) hbl).trans x3
              have HB67 := Lib.hid hb67
              clear hb67 hb7
              go_wp2_with fail
              go_ret
              exact ⟨rfl, HB4.out.trans (HB67.out.mono hsz4)⟩
      · obtain ⟨he, hsm, hct⟩ := round_ok k hK1 hK2
        obtain ⟨c, hF⟩ := errB_spec he (by decide)
        obtain rfl := chorF_err hF (by decide)
        have HSM := Lib.hid hsm
        have HCT := Lib.hid hct
        have HF := Lib.hid hF
        clear he hsm hct hF hr r
        go_wp2_with fail
        refine (chor_small (d := chD k true) 20 rd_nil HCH.out HF.out HSM.out HCT.out (by decide)).mono ?_
        rintro e w4 ⟨vP, vF, vI, vS, rfl, ⟨hP, hF2, hI, hS⟩, hb4⟩
        obtain ⟨AP, cP, _, rfl, _, _⟩ := rd_sl.1 hP
        obtain ⟨AF, cF, _, rfl, _, _⟩ := rd_sl.1 hF2
        obtain ⟨AI, cI, _, rfl, _, _⟩ := rd_sl.1 hI
        obtain ⟨AS, cS, _, rfl, _, _⟩ := rd_sl.1 hS
        have HB4 := Lib.hid (HBR.out.trans (hb4.mono HBR.out.size))
        have hl4 := HB4.out.size
        clear hP hF2 hI hS hb4 d0 d1
        go_wp2_with fail
        refine (inl_awake _).mono ?_
        rintro e w5 ⟨rfl, hb5⟩
        have hbc := (Blk.new w4 28 #[.string ⟨#[]⟩, .slice AP 0 cP, .slice AF 0 cF, .slice AI 0 cI, .slice AS 0 cS]).below hb5 (by simp)
        have c3 : w5.cell? ⟨w4.heap.size, 3, none⟩ = some (.slice AI 0 cI) := hbc.cell 3
        have HB5 := Lib.hid hb5
        clear hbc hb5
        go_wp2_with fail
        go_ret
        exact ⟨rfl, (HB4.out.alloc hl4 _).trans (HB5.out.mono (by simp; omega))⟩
end Go.Proofs.Yteoioboiniealaa
