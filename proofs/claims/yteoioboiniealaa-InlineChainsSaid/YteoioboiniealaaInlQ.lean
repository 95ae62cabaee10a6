/- Memory of a choreography that the law InlineChains makes: its blocks, and what it reads as. -/
import Derived.Test.YteoioboiniealaaInlO
namespace Go.Proofs.Yteoioboiniealaa
open Go.RowKit

theorem own_blkC {w : World} {g e sz n base : Nat} {cs : Array Value} (hb : Blk w g e cs) (hm : n ≤ maxLen) (hs : cs.size = n * sz) (hg : base ≤ g) : w.ownsRow base e sz (.slice (some ⟨g, 0, none⟩) n n) n cs.toList :=
  ⟨by simpa using hs, .inr ⟨g, n, cs, rfl, hg, hb, Nat.le_refl _, hm, hs, List.take_of_length_le (by rw [Array.length_toList, hs]; exact Nat.le_refl _)⟩⟩
theorem infoItemC : (Try.prog.info? 33).map (fun i => (i.zero, i.size, i.bytes)) = some (some (.agg #[.int .i64 0, .string ⟨#[]⟩, .string ⟨#[]⟩, .slice none 0 0, .slice none 0 0, .bool false, .string ⟨#[]⟩, .slice none 0 0, .slice none 0 0, .slice none 0 0]), 10, 184) := by kernel_rfl
theorem infoChorC : (Try.prog.info? 28).map (fun i => (i.zero, i.size, i.bytes)) = some (some (.agg #[.string ⟨#[]⟩, .slice none 0 0, .slice none 0 0, .slice none 0 0, .slice none 0 0]), 5, 112) := by kernel_rfl
theorem rdp_blk {S : Nat → Prop} {w : World} {g e sz n cap : Nat} {cs : Array Value} {ds : List Dat} (hb : Blk w g e cs) (hS : S g) (hl : RdPL S w ds (cs.toList.take (n * sz))) (hn : n ≤ cap) (hm : cap ≤ maxLen) (hs : cs.size = cap * sz) : RdP S w (.sl e sz n ds) (.slice (some ⟨g, 0, none⟩) n cap) := by
  refine rdp_sl.2 ⟨_, _, _, rfl, ⟨?_, .inr ⟨g, cap, cs, rfl, Nat.zero_le _, hb, hn, hm, hs, rfl⟩⟩, ?_, hl⟩
  · rw [List.length_take, Array.length_toList, hs]
    exact Nat.min_eq_left (Nat.mul_le_mul_right _ hn)
  · intro b hb
    have : g = b := by simpa [Value.ownBlock] using hb
    rw [← this]; exact hS
theorem rdp_none {S : Nat → Prop} {w : World} {e sz : Nat} : RdP S w (.sl e sz 0 []) (.slice none 0 0) := rdp_sl.2 ⟨none, 0, [], rfl, World.ownsRow_nil _ _ _ _, fun b hb => by simp [Value.ownBlock] at hb, rdpl_nil.2 rfl⟩
theorem rdpl_strs4 {S : Nat → Prop} {w : World} (a b c d : ByteArray) : RdPL S w [.str a, .str b, .str c, .str d] [.string a, .string b, .string c, .string d] :=
  rdpl_cons.2 ⟨_, _, rfl, rdp_str.2 rfl, rdpl_cons.2 ⟨_, _, rfl, rdp_str.2 rfl, rdpl_cons.2 ⟨_, _, rfl, rdp_str.2 rfl, rdpl_cons.2 ⟨_, _, rfl, rdp_str.2 rfl, rdpl_nil.2 rfl⟩⟩⟩⟩
theorem rdpl_itemQ {S : Nat → Prop} {w : World} (k : Int) (id called : ByteArray) (ms : List MapD) (vM : Value) (h : RdP S w (mapsD ms) vM) :
    RdPL S w (itemC ⟨k, id, ⟨#[]⟩, [], [], false, called, ms, [], []⟩) [.int .i64 k, .string id, .string ⟨#[]⟩, .slice none 0 0, .slice none 0 0, .bool false, .string called, vM, .slice none 0 0, .slice none 0 0] := by
  rw [itemC_eq]
  exact rdpl_cons.2 ⟨_, _, rfl, rdp_int.2 rfl, rdpl_cons.2 ⟨_, _, rfl, rdp_str.2 rfl, rdpl_cons.2 ⟨_, _, rfl, rdp_str.2 rfl, rdpl_cons.2 ⟨_, _, rfl, rdp_none, rdpl_cons.2 ⟨_, _, rfl, rdp_none, rdpl_cons.2 ⟨_, _, rfl, rdp_bool.2 rfl, rdpl_cons.2 ⟨_, _, rfl, rdp_str.2 rfl, rdpl_cons.2 ⟨_, _, rfl, h, rdpl_cons.2 ⟨_, _, rfl, rdp_none, rdpl_cons.2 ⟨_, _, rfl, rdp_none, rdpl_nil.2 rfl⟩⟩⟩⟩⟩⟩⟩⟩⟩⟩

/-- A choreography's blocks: its own, its participants', its message flow's. -/
structure NewC (N g gP gF : Nat) (s : ByteArray) (vI : Value) (W : World) : Prop where
  hg : N ≤ g
  hP : N ≤ gP
  hF : N ≤ gF
  bg : Blk W g 28 #[.string s, .slice (some ⟨gP, 0, none⟩) 2 2, .slice (some ⟨gF, 0, none⟩) 1 1, vI, .slice none 0 0]
  bP : Blk W gP 38 #[.string (s ++ ⟨#[112]⟩), .string ⟨#[]⟩, .string (s ++ ⟨#[113]⟩), .string ⟨#[]⟩]
  bF : Blk W gF 40 #[.string (s ++ ⟨#[102]⟩), .string (s ++ ⟨#[112]⟩), .string (s ++ ⟨#[113]⟩), .string ⟨#[109]⟩]
theorem NewC.below {N g gP gF : Nat} {s : ByteArray} {vI : Value} {W W2 : World} (h : NewC N g gP gF s vI W) (hb : Below W.heap.size W W2) : NewC N g gP gF s vI W2 :=
  ⟨h.hg, h.hP, h.hF, h.bg.below hb h.bg.lt, h.bP.below hb h.bP.lt, h.bF.below hb h.bF.lt⟩
/-- .. and the call's, with its maps. -/
structure CallQ (N gM gC : Nat) (s T : ByteArray) (W : World) : Prop where
  hM : N ≤ gM
  hC : N ≤ gC
  bM : Blk W gM 73 #[.string (T ++ ⟨#[112]⟩), .string (s ++ ⟨#[113]⟩), .string (T ++ ⟨#[113]⟩), .string (s ++ ⟨#[112]⟩)]
  bC : Blk W gC 33 #[.int .i64 8, .string (s ++ ⟨#[120]⟩), .string ⟨#[]⟩, .slice none 0 0, .slice none 0 0, .bool false, .string T, .slice (some ⟨gM, 0, none⟩) 2 2, .slice none 0 0, .slice none 0 0]
theorem CallQ.below {N gM gC : Nat} {s T : ByteArray} {W W2 : World} (h : CallQ N gM gC s T W) (hb : Below W.heap.size W W2) : CallQ N gM gC s T W2 :=
  ⟨h.hM, h.hC, h.bM.below hb h.bM.lt, h.bC.below hb h.bC.lt⟩
def chCallQ (s T : ByteArray) : ItemD := ⟨8, s ++ ⟨#[120]⟩, ⟨#[]⟩, [], [], false, T, [⟨T ++ ⟨#[112]⟩, s ++ ⟨#[113]⟩⟩, ⟨T ++ ⟨#[113]⟩, s ++ ⟨#[112]⟩⟩], [], []⟩
def chEndsQ (s : ByteArray) : List ItemD := [itemK 1 (s ++ ⟨#[115]⟩) ⟨#[]⟩, itemK 2 (s ++ ⟨#[101]⟩) ⟨#[]⟩]
def chorQ (s : ByteArray) (its : List ItemD) : ChorD := ⟨s, [⟨s ++ ⟨#[112]⟩, ⟨#[]⟩⟩, ⟨s ++ ⟨#[113]⟩, ⟨#[]⟩⟩], [⟨s ++ ⟨#[102]⟩, s ++ ⟨#[112]⟩, s ++ ⟨#[113]⟩, ⟨#[109]⟩⟩], its, []⟩
theorem rdp_chor {N g gP gF : Nat} {s : ByteArray} {vI : Value} {its : List ItemD} {W : World} (h : NewC N g gP gF s vI W) (hi : RdP (fun b => N ≤ b) W (itemsD its) vI) : RdPL (fun b => N ≤ b) W (chorC (chorQ s its)) [.string s, .slice (some ⟨gP, 0, none⟩) 2 2, .slice (some ⟨gF, 0, none⟩) 1 1, vI, .slice none 0 0] := by
  refine rdpl_cons.2 ⟨_, _, rfl, rdp_str.2 rfl, rdpl_cons.2 ⟨_, _, rfl, ?_, rdpl_cons.2 ⟨_, _, rfl, ?_, rdpl_cons.2 ⟨_, _, rfl, hi, rdpl_cons.2 ⟨_, _, rfl, rdp_none, rdpl_nil.2 rfl⟩⟩⟩⟩⟩
  · exact rdp_blk (n := 2) h.bP h.hP (rdpl_strs4 _ _ _ _) (Nat.le_refl _) (by decide) rfl
  · exact rdp_blk (n := 1) h.bF h.hF (rdpl_strs4 _ _ _ _) (Nat.le_refl _) (by decide) rfl
def endsQV (s : ByteArray) : List Value := [.int .i64 1, .string (s ++ ⟨#[115]⟩), .string ⟨#[]⟩, .slice none 0 0, .slice none 0 0, .bool false, .string ⟨#[]⟩, .slice none 0 0, .slice none 0 0, .slice none 0 0, .int .i64 2, .string (s ++ ⟨#[101]⟩), .string ⟨#[]⟩, .slice none 0 0, .slice none 0 0, .bool false, .string ⟨#[]⟩, .slice none 0 0, .slice none 0 0, .slice none 0 0]
theorem rdpl_endsQ {S : Nat → Prop} {W : World} (s : ByteArray) : RdPL S W ((chEndsQ s).flatMap itemC) (endsQV s) := by
  unfold chEndsQ
  rw [List.flatMap_cons, List.flatMap_cons, List.flatMap_nil, List.append_nil]
  exact (rdpl_itemQ 1 (s ++ ⟨#[115]⟩) ⟨#[]⟩ [] (.slice none 0 0) rdp_none).append (rdpl_itemQ 2 (s ++ ⟨#[101]⟩) ⟨#[]⟩ [] (.slice none 0 0) rdp_none)
theorem rdp_ends {N gI : Nat} {s : ByteArray} {W : World} (hI : N ≤ gI) (bI : Blk W gI 33 #[.int .i64 1, .string (s ++ ⟨#[115]⟩), .string ⟨#[]⟩, .slice none 0 0, .slice none 0 0, .bool false, .string ⟨#[]⟩, .slice none 0 0, .slice none 0 0, .slice none 0 0, .int .i64 2, .string (s ++ ⟨#[101]⟩), .string ⟨#[]⟩, .slice none 0 0, .slice none 0 0, .bool false, .string ⟨#[]⟩, .slice none 0 0, .slice none 0 0, .slice none 0 0]) : RdP (fun b => N ≤ b) W (itemsD (chEndsQ s)) (.slice (some ⟨gI, 0, none⟩) 2 2) :=
  rdp_blk (n := 2) bI hI (rdpl_endsQ s) (Nat.le_refl _) (by decide) rfl
theorem rdp_three {N gM gC gA capA : Nat} {s T : ByteArray} {W : World} (hC : CallQ N gM gC s T W) (ho : W.ownsRow N 33 10 (.slice (some ⟨gA, 0, none⟩) 3 capA) 3 (endsQV s ++ [.int .i64 8, .string (s ++ ⟨#[120]⟩), .string ⟨#[]⟩, .slice none 0 0, .slice none 0 0, .bool false, .string T, .slice (some ⟨gM, 0, none⟩) 2 2, .slice none 0 0, .slice none 0 0])) : RdP (fun b => N ≤ b) W (itemsD (chEndsQ s ++ [chCallQ s T])) (.slice (some ⟨gA, 0, none⟩) 3 capA) := by
  refine rdp_of_own ho (fun _ h => h) ?_
  rw [List.flatMap_append, List.flatMap_cons, List.flatMap_nil, List.append_nil]
  refine (rdpl_endsQ s).append (rdpl_itemQ 8 (s ++ ⟨#[120]⟩) T _ _ ?_)
  exact rdp_blk (n := 2) hC.bM hC.hM (rdpl_strs4 _ _ _ _) (Nat.le_refl _) (by decide) rfl
/-- The start and the end are laid, and the choreography told of them. -/
theorem ends_step {N g gP gF gM gC : Nat} {s T : ByteArray} {W0 W : World} (h : NewC N g gP gF s (.slice none 0 0) W) (hC : CallQ N gM gC s T W) (hb : Below N W0 W) (hN : N ≤ W0.heap.size) :
    NewC N g gP gF s (.slice (some ⟨W.heap.size, 0, none⟩) 2 2) ((W.setCell ⟨g, 3, none⟩ (.slice (some ⟨W.heap.size, 0, none⟩) 2 2)).alloc (.cells #[.int .i64 1, .string (s ++ ⟨#[115]⟩), .string ⟨#[]⟩, .slice none 0 0, .slice none 0 0, .bool false, .string ⟨#[]⟩, .slice none 0 0, .slice none 0 0, .slice none 0 0, .int .i64 2, .string (s ++ ⟨#[101]⟩), .string ⟨#[]⟩, .slice none 0 0, .slice none 0 0, .bool false, .string ⟨#[]⟩, .slice none 0 0, .slice none 0 0, .slice none 0 0] 33)) ∧ CallQ N gM gC s T ((W.setCell ⟨g, 3, none⟩ (.slice (some ⟨W.heap.size, 0, none⟩) 2 2)).alloc (.cells #[.int .i64 1, .string (s ++ ⟨#[115]⟩), .string ⟨#[]⟩, .slice none 0 0, .slice none 0 0, .bool false, .string ⟨#[]⟩, .slice none 0 0, .slice none 0 0, .slice none 0 0, .int .i64 2, .string (s ++ ⟨#[101]⟩), .string ⟨#[]⟩, .slice none 0 0, .slice none 0 0, .bool false, .string ⟨#[]⟩, .slice none 0 0, .slice none 0 0, .slice none 0 0] 33)) ∧ Blk ((W.setCell ⟨g, 3, none⟩ (.slice (some ⟨W.heap.size, 0, none⟩) 2 2)).alloc (.cells #[.int .i64 1, .string (s ++ ⟨#[115]⟩), .string ⟨#[]⟩, .slice none 0 0, .slice none 0 0, .bool false, .string ⟨#[]⟩, .slice none 0 0, .slice none 0 0, .slice none 0 0, .int .i64 2, .string (s ++ ⟨#[101]⟩), .string ⟨#[]⟩, .slice none 0 0, .slice none 0 0, .bool false, .string ⟨#[]⟩, .slice none 0 0, .slice none 0 0, .slice none 0 0] 33)) W.heap.size 33 #[.int .i64 1, .string (s ++ ⟨#[115]⟩), .string ⟨#[]⟩, .slice none 0 0, .slice none 0 0, .bool false, .string ⟨#[]⟩, .slice none 0 0, .slice none 0 0, .slice none 0 0, .int .i64 2, .string (s ++ ⟨#[101]⟩), .string ⟨#[]⟩, .slice none 0 0, .slice none 0 0, .bool false, .string ⟨#[]⟩, .slice none 0 0, .slice none 0 0, .slice none 0 0] ∧ Below N W0 ((W.setCell ⟨g, 3, none⟩ (.slice (some ⟨W.heap.size, 0, none⟩) 2 2)).alloc (.cells #[.int .i64 1, .string (s ++ ⟨#[115]⟩), .string ⟨#[]⟩, .slice none 0 0, .slice none 0 0, .bool false, .string ⟨#[]⟩, .slice none 0 0, .slice none 0 0, .slice none 0 0, .int .i64 2, .string (s ++ ⟨#[101]⟩), .string ⟨#[]⟩, .slice none 0 0, .slice none 0 0, .bool false, .string ⟨#[]⟩, .slice none 0 0, .slice none 0 0, .slice none 0 0] 33)) := by
  have neP : ∀ {b t : Nat} {cs : Array Value}, Blk W b t cs → t ≠ 28 → b ≠ g := fun hb ht e => by
    subst e
    have := hb.symm.trans h.bg
    injection this with this
    injection this with _ h1
    exact ht h1
  have hz : (W.setCell ⟨g, 3, none⟩ (.slice (some ⟨W.heap.size, 0, none⟩) 2 2)).heap.size = W.heap.size := by simp [World.setCell]
  have hI := Blk.new (W.setCell ⟨g, 3, none⟩ (.slice (some ⟨W.heap.size, 0, none⟩) 2 2)) 33 #[.int .i64 1, .string (s ++ ⟨#[115]⟩), .string ⟨#[]⟩, .slice none 0 0, .slice none 0 0, .bool false, .string ⟨#[]⟩, .slice none 0 0, .slice none 0 0, .slice none 0 0, .int .i64 2, .string (s ++ ⟨#[101]⟩), .string ⟨#[]⟩, .slice none 0 0, .slice none 0 0, .bool false, .string ⟨#[]⟩, .slice none 0 0, .slice none 0 0, .slice none 0 0]
  rw [hz] at hI
  exact ⟨⟨h.hg, h.hP, h.hF, (h.bg.set_ 3 _).alloc _, (h.bP.far (neP h.bP (by decide)) _).alloc _, (h.bF.far (neP h.bF (by decide)) _).alloc _⟩,
    ⟨hC.hM, hC.hC, (hC.bM.far (neP hC.bM (by decide)) _).alloc _, (hC.bC.far (neP hC.bC (by decide)) _).alloc _⟩,
    hI, (hb.setCell h.hg _).alloc (by rw [hz]; exact Nat.le_trans hN hb.size) _⟩
/-- The call is appended, and the choreography told of it. -/
theorem three_step {N g gP gF gI gM gC gA capA : Nat} {s T : ByteArray} {W0 W W2 : World} {o : Obj} (h : NewC N g gP gF s (.slice (some ⟨gI, 0, none⟩) 2 2) W) (hC : CallQ N gM gC s T W) (bI : Blk W gI 33 #[.int .i64 1, .string (s ++ ⟨#[115]⟩), .string ⟨#[]⟩, .slice none 0 0, .slice none 0 0, .bool false, .string ⟨#[]⟩, .slice none 0 0, .slice none 0 0, .slice none 0 0, .int .i64 2, .string (s ++ ⟨#[101]⟩), .string ⟨#[]⟩, .slice none 0 0, .slice none 0 0, .bool false, .string ⟨#[]⟩, .slice none 0 0, .slice none 0 0, .slice none 0 0]) (hI : N ≤ gI) (hCI : gC ≠ gI) (hb : Below N W0 W) (hN : N ≤ W0.heap.size)
    (hown : W2.ownsRow N 33 10 (.slice (some ⟨gA, 0, none⟩) 3 capA) 3 (endsQV s ++ [.int .i64 8, .string (s ++ ⟨#[120]⟩), .string ⟨#[]⟩, .slice none 0 0, .slice none 0 0, .bool false, .string T, .slice (some ⟨gM, 0, none⟩) 2 2, .slice none 0 0, .slice none 0 0])) (hgrow : (W.alloc o).grownBy W2 (some gI)) :
    NewC N g gP gF s (.slice (some ⟨gA, 0, none⟩) 3 capA) (W2.setCell ⟨g, 3, none⟩ (.slice (some ⟨gA, 0, none⟩) 3 capA)) ∧ RdP (fun b => N ≤ b) (W2.setCell ⟨g, 3, none⟩ (.slice (some ⟨gA, 0, none⟩) 3 capA)) (itemsD (chEndsQ s ++ [chCallQ s T])) (.slice (some ⟨gA, 0, none⟩) 3 capA) ∧ Below N W0 (W2.setCell ⟨g, 3, none⟩ (.slice (some ⟨gA, 0, none⟩) 3 capA)) := by
  have ne : ∀ {b t : Nat} {cs : Array Value}, Blk W b t cs → t ≠ 33 → some b ≠ some gI := fun hb ht e => by
    injection e with e
    subst e
    have := hb.symm.trans bI
    injection this with this
    injection this with _ h1
    exact ht h1
  have neP : ∀ {b t : Nat} {cs : Array Value}, Blk W b t cs → t ≠ 28 → b ≠ g := fun hb ht e => by
    subst e
    have := hb.symm.trans h.bg
    injection this with this
    injection this with _ h1
    exact ht h1
  have hg2 := (h.bg.alloc o).grown hgrow (ne h.bg (by decide))
  have hP2 := (h.bP.alloc o).grown hgrow (ne h.bP (by decide))
  have hF2 := (h.bF.alloc o).grown hgrow (ne h.bF (by decide))
  have hM2 := (hC.bM.alloc o).grown hgrow (ne hC.bM (by decide))
  have hC2 := (hC.bC.alloc o).grown hgrow (fun e => hCI (by injection e))
  have hCQ : CallQ N gM gC s T (W2.setCell ⟨g, 3, none⟩ (.slice (some ⟨gA, 0, none⟩) 3 capA)) :=
    ⟨hC.hM, hC.hC, hM2.far (neP hC.bM (by decide)) _, hC2.far (neP hC.bC (by decide)) _⟩
  refine ⟨⟨h.hg, h.hP, h.hF, hg2.set_ 3 _, hP2.far (neP h.bP (by decide)) _, hF2.far (neP h.bF (by decide)) _⟩, ?_, ?_⟩
  · refine rdp_three hCQ (ownsRow_setCell_other hown ?_ _)
    exact blk_own_ne hown hg2 (by decide)
  · have hb2 : Below N W0 W2 := (hb.alloc (Nat.le_trans hN hb.size) o).grown hgrow (by have := hb.size; simp; omega) (fun k hk => by
      have : gI = k := by simpa using hk
      omega)
    exact hb2.setCell h.hg _
end Go.Proofs.Yteoioboiniealaa
