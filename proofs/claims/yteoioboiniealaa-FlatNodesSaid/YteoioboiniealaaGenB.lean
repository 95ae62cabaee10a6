/- Memory of the generator's maker; the contracts of Pick, id and next. -/
import Derived.Test.YteoioboiniealaaGenA
import Derived.Test.YteoioboiniealaaArgs
import Derived.Test.YteoioboiniealaaBlk
import Derived.Test.YteoioboiniealaaApp
import Derived.Test.YteoioboiniealaaStr
import Derived.Test.YteoioboiniealaaReg
import Derived.Deep.RegionHeld3
import Derived.Deep.DeepCutAuto
import Derived.IntWalk
namespace Go.Proofs.Yteoioboiniealaa
open Go.RowKit
attribute [local go_sem] conv_new2

theorem Blk.drew {w : World} {g : Nat} {t : TypeId} {cs : Array Value} (h : Blk w g t cs) : Blk w.drew g t cs := h
/-- Cells of a block stored one behind the other. -/
def putAll (w : World) (g : Nat) : Nat → List Value → World
  | _, [] => w
  | i, v :: vs => putAll (w.setCell ⟨g, i, none⟩ v) g (i + 1) vs
theorem putAll_blk {t : TypeId} {g : Nat} : ∀ (vs : List Value) (i : Nat) (w : World) (cs : Array Value), Blk w g t cs → i + vs.length = cs.size → Blk (putAll w g i vs) g t (cs.toList.take i ++ vs).toArray
  | [], i, w, cs, h, hl => by
    have : cs.toList.take i = cs.toList := List.take_of_length_le (by simp at hl ⊢; omega)
    simp only [putAll, this, List.append_nil]
    exact h
  | v :: vs, i, w, cs, h, hl => by
    have hl' : i < cs.size := by simp at hl; omega
    have h1 := putAll_blk vs (i + 1) (w.setCell ⟨g, i, none⟩ v) (cs.setIfInBounds i v) (h.set_ i v) (by simp at hl ⊢; omega)
    have e : (cs.setIfInBounds i v).toList.take (i + 1) ++ vs = cs.toList.take i ++ v :: vs := by
      rw [Array.toList_setIfInBounds, List.take_succ_eq_append_getElem (by simpa using hl'), List.take_set_of_le (Nat.le_refl _)]
      simp
    rw [e] at h1
    exact h1
theorem putAll_size : ∀ (vs : List Value) (i : Nat) (w : World) (g : Nat), (putAll w g i vs).heap.size = w.heap.size
  | [], _, _, _ => rfl
  | v :: vs, i, w, g => by
    rw [putAll, putAll_size vs]
    simp [World.setCell]
theorem putAll_heap {g : Nat} : ∀ (vs : List Value) (i : Nat) (w : World) (b : Nat), b ≠ g → (putAll w g i vs).heap[b]? = w.heap[b]?
  | [], _, _, _, _ => rfl
  | v :: vs, i, w, b, hb => (putAll_heap vs (i + 1) _ b hb).trans (Below.heap_setCell w ⟨g, i, none⟩ v b hb)
theorem putAll_below {B g : Nat} {w0 : World} (hg : B ≤ g) : ∀ (vs : List Value) (i : Nat) (w : World), Below B w0 w → Below B w0 (putAll w g i vs)
  | [], _, _, h => h
  | v :: vs, i, _, h => putAll_below hg vs (i + 1) _ (h.setCell (p := ⟨g, i, none⟩) hg v)

theorem freeL_append {T : TypeId} : ∀ {a b : List Dat}, freeL T a → freeL T b → freeL T (a ++ b)
  | [], _, _, h => h
  | d :: a, b, h, k => by
    unfold freeL at h
    show freeL T (d :: (a ++ b))
    unfold freeL
    exact ⟨h.1, freeL_append h.2 k⟩
theorem free_flat {α : Type} {T : TypeId} {f : α → List Dat} (h : ∀ x, freeL T (f x)) : ∀ l : List α, freeL T (l.flatMap f)
  | [] => by unfold freeL; trivial
  | x :: l => by rw [List.flatMap_cons]; exact freeL_append (h x) (free_flat h l)
theorem free_strs (T : TypeId) (h : 9 ≠ T) (l : List ByteArray) : Dat.free T (strsD l) := by unfold strsD datS Dat.free; exact ⟨h, free_flat (fun x => by unfold strC; simp [freeL, Dat.free]) l⟩
theorem free_maps (T : TypeId) (h : 73 ≠ T) (l : List MapD) : Dat.free T (mapsD l) := by unfold mapsD datS Dat.free; exact ⟨h, free_flat (fun x => by unfold mapC; simp [freeL, Dat.free]) l⟩
theorem free_seqs (T : TypeId) (h : 36 ≠ T) (l : List SeqD) : Dat.free T (seqsD l) := by unfold seqsD datS Dat.free; exact ⟨h, free_flat (fun x => by unfold seqC; simp [freeL, Dat.free]) l⟩
theorem free_parts (T : TypeId) (h : 38 ≠ T) (l : List PartD) : Dat.free T (partsD l) := by unfold partsD datS Dat.free; exact ⟨h, free_flat (fun x => by unfold partC; simp [freeL, Dat.free]) l⟩
theorem free_flows (T : TypeId) (h : 40 ≠ T) (l : List FlowD) : Dat.free T (flowsD l) := by unfold flowsD datS Dat.free; exact ⟨h, free_flat (fun x => by unfold flowC; simp [freeL, Dat.free]) l⟩
mutual
theorem free_item (T : TypeId) (h1 : 9 ≠ T) (h2 : 73 ≠ T) (h3 : 33 ≠ T) (h4 : 36 ≠ T) : ∀ x : ItemD, freeL T (itemC x)
  | ⟨kind, id, first, parts, flows, loop, called, maps, items, seqs⟩ => by
    rw [itemC]
    have i1 := free_strs T h1 parts
    have i2 := free_strs T h1 flows
    have i3 := free_maps T h2 maps
    have i4 : Dat.free T (.sl 33 10 items.length (itemsC items)) := by unfold Dat.free; exact ⟨h3, free_itemL T h1 h2 h3 h4 items⟩
    have i5 := free_seqs T h4 seqs
    simp only [freeL, Dat.free, and_true, true_and] at *
    exact ⟨i1, i2, i3, i4, i5⟩
theorem free_itemL (T : TypeId) (h1 : 9 ≠ T) (h2 : 73 ≠ T) (h3 : 33 ≠ T) (h4 : 36 ≠ T) : ∀ l : List ItemD, freeL T (itemsC l)
  | [] => by rw [itemsC]; unfold freeL; trivial
  | x :: l => by rw [itemsC]; exact freeL_append (free_item T h1 h2 h3 h4 x) (free_itemL T h1 h2 h3 h4 l)
end
/-- What a maker's slices read as. -/
structure Comp (w : World) (ps : List PartD) (fs : List FlowD) (is : List ItemD) (ss : List SeqD) (AP : Option Addr) (cP : Nat) (AF : Option Addr) (cF : Nat) (AI : Option Addr) (cI : Nat) (AS : Option Addr) (cS : Nat) : Prop where
  parts : Rd w (partsD ps) (.slice AP ps.length cP)
  flows : Rd w (flowsD fs) (.slice AF fs.length cF)
  items : Rd w (itemsD is) (.slice AI is.length cI)
  seqs : Rd w (seqsD ss) (.slice AS ss.length cS)
section
variable {w w1 : World} {ps : List PartD} {fs : List FlowD} {is : List ItemD} {ss : List SeqD} {AP : Option Addr} {cP : Nat} {AF : Option Addr} {cF : Nat} {AI : Option Addr} {cI : Nat} {AS : Option Addr} {cS : Nat}
theorem Comp.below (h : Comp w ps fs is ss AP cP AF cF AI cI AS cS) (hb : Below w.heap.size w w1) : Comp w1 ps fs is ss AP cP AF cF AI cI AS cS :=
  ⟨Rd.below hb _ _ h.parts, Rd.below hb _ _ h.flows, Rd.below hb _ _ h.items, Rd.below hb _ _ h.seqs⟩
/-- A block of another type is written. -/
theorem Comp.grown (h : Comp w ps fs is ss AP cP AF cF AI cI AS cS) {g : Nat} {cs : Array Value} (hg : w.grownBy w1 (some g)) (hm : Blk w g 89 cs) : Comp w1 ps fs is ss AP cP AF cF AI cI AS cS := by
  have hi : Dat.free 89 (itemsD is) := by
    unfold itemsD datS Dat.free
    rw [← itemsC_flat]
    exact ⟨by decide, free_itemL _ (by decide) (by decide) (by decide) (by decide) is⟩
  exact ⟨Rd.grown hg hm _ _ (free_parts _ (by decide) ps) h.parts, Rd.grown hg hm _ _ (free_flows _ (by decide) fs) h.flows, Rd.grown hg hm _ _ hi h.items, Rd.grown hg hm _ _ (free_seqs _ (by decide) ss) h.seqs⟩
end
/-- A maker's cells. -/
def MkR (w : World) (A : Option Addr) (cap : Nat) (m : MkD) (c : Array Value) : Prop :=
  ∃ AP cP AF cF AI cI AS cS, c = #[.slice A m.p.length cap, .int .i64 m.at_, .int .i64 m.n, .slice AP m.parts.length cP, .slice AF m.flows.length cF, .slice AI m.items.length cI, .slice AS m.seqs.length cS, .string m.pre] ∧ Comp w m.parts m.flows m.items m.seqs AP cP AF cF AI cI AS cS
theorem MkR.below {w w1 : World} {A : Option Addr} {cap : Nat} {m : MkD} {c : Array Value} (h : MkR w A cap m c) (hb : Below w.heap.size w w1) : MkR w1 A cap m c := by
  obtain ⟨AP, cP, AF, cF, AI, cI, AS, cS, hc, h1⟩ := h
  exact ⟨AP, cP, AF, cF, AI, cI, AS, cS, hc, h1.below hb⟩
theorem putAll_grown {g : Nat} (vs : List Value) (w : World) : w.grownBy (putAll w g 0 vs) (some g) := by
  have h : ∀ (vs : List Value) (i : Nat) (w : World), (putAll w g i vs).os = w.os ∧ (putAll w g i vs).tape = w.tape ∧ (putAll w g i vs).output = w.output := by
    intro vs
    induction vs with
    | nil => intro i w; exact ⟨rfl, rfl, rfl⟩
    | cons v vs ih => intro i w; exact ih (i + 1) _
  exact ⟨(h vs 0 w).1, (h vs 0 w).2.1, (h vs 0 w).2.2, by rw [putAll_size]; exact Nat.le_refl _, fun i _ hne => putAll_heap vs 0 w i (fun e => hne (by rw [e]))⟩
/-- The maker lies in the first block of the call's own, the result in the second. -/
def PW (w : World) (A : Option Addr) (cap : Nat) (m : MkD) (W : World) : Prop :=
  ∃ AP cP AF cF AI cI AS cS, Blk W w.heap.size 89 #[.slice A m.p.length cap, .int .i64 m.at_, .int .i64 m.n, .slice AP m.parts.length cP, .slice AF m.flows.length cF, .slice AI m.items.length cI, .slice AS m.seqs.length cS, .string m.pre] ∧
    Blk W (w.heap.size + 1) 89 #[.slice none 0 0, .int .i64 0, .int .i64 0, .slice none 0 0, .slice none 0 0, .slice none 0 0, .slice none 0 0, .string ⟨#[]⟩] ∧ Comp W m.parts m.flows m.items m.seqs AP cP AF cF AI cI AS cS ∧ Below w.heap.size w W
theorem PW.put {w W w1 : World} {A : Option Addr} {cap : Nat} {m m' : MkD} {AP : Option Addr} {cP : Nat} {AF : Option Addr} {cF : Nat} {AI : Option Addr} {cI : Nat} {AS : Option Addr} {cS : Nat} (h : PW w A cap m W) (hb : Below W.heap.size W w1) (hC : Comp w1 m'.parts m'.flows m'.items m'.seqs AP cP AF cF AI cI AS cS) :
    PW w A cap m' (putAll w1 w.heap.size 0 [.slice A m'.p.length cap, .int .i64 m'.at_, .int .i64 m'.n, .slice AP m'.parts.length cP, .slice AF m'.flows.length cF, .slice AI m'.items.length cI, .slice AS m'.seqs.length cS, .string m'.pre]) := by
  obtain ⟨_, _, _, _, _, _, _, _, h1, h2, _, h4⟩ := h
  have h1' := h1.below hb h1.lt
  have h2' := h2.below hb h2.lt
  exact ⟨AP, cP, AF, cF, AI, cI, AS, cS, putAll_blk _ 0 w1 _ h1' rfl, (putAll_heap _ 0 w1 _ (by omega)).trans h2', hC.grown (putAll_grown _ w1) h1', putAll_below (Nat.le_refl _) _ 0 _ (h4.trans (hb.mono h4.size))⟩
theorem rd_form {α : Type} {w : World} {e sz : Nat} {f : α → List Dat} {l : List α} {v : Value} (h : Rd w (datS e sz f l) v) : ∃ A c, v = .slice A l.length c := by
  obtain ⟨A, c, _, rfl, _⟩ := rd_sl.1 h
  exact ⟨A, c, rfl⟩
/-- Small enough to be reckoned with. -/
structure SmallM (K : Nat) (m : MkD) : Prop where
  pre : m.pre.size ≤ 10
  pl : m.p.length ≤ maxLen
  at_ : m.at_ ≤ K
  n : m.n ≤ K
  flows : m.flows.length ≤ K
  items : m.items.length ≤ K
  seqs : m.seqs.length ≤ K
theorem SmallM.mono {K L : Nat} {m : MkD} (h : SmallM K m) (hL : K ≤ L) : SmallM L m :=
  ⟨h.pre, h.pl, Nat.le_trans h.at_ hL, Nat.le_trans h.n hL, Nat.le_trans h.flows hL, Nat.le_trans h.items hL, Nat.le_trans h.seqs hL⟩

theorem and_low (x : Int) (k : Nat) (hk : k ≤ 62) : bits BinOp.and IntKind.i64 x ((2 ^ k - 1 : Nat) : Int) = x % ((2 ^ k : Nat) : Int) := by
  have hp : 2 ^ k ≤ 2 ^ 62 := Nat.pow_le_pow_right (by decide) hk
  have hp0 : 0 < 2 ^ k := Nat.two_pow_pos k
  have e : bits BinOp.and IntKind.i64 x ((2 ^ k - 1 : Nat) : Int) = IntKind.i64.wrap ((BitVec.ofInt 64 x &&& BitVec.ofInt 64 ((2 ^ k - 1 : Nat) : Int)).toNat : Int) := rfl
  rw [e, BitVec.toNat_and, ofInt_i64 (2 ^ k - 1) (by omega), Nat.and_two_pow_sub_one_eq_mod, BitVec.toNat_ofInt, IntKind.wrap_i64]
  have hd : ((2 ^ k : Nat) : Int) ∣ ((2 ^ 64 : Nat) : Int) := Int.natCast_dvd_natCast.2 (Nat.pow_dvd_pow 2 (by omega))
  have h1 : ((x % ((2 ^ 64 : Nat) : Int)).toNat : Int) = x % ((2 ^ 64 : Nat) : Int) := Int.toNat_of_nonneg (Int.emod_nonneg _ (by decide))
  have h2 : (((x % ((2 ^ 64 : Nat) : Int)).toNat % 2 ^ k : Nat) : Int) = x % ((2 ^ k : Nat) : Int) := by
    rw [Int.natCast_emod, h1, Int.emod_emod_of_dvd _ hd]
  have h3 : ((x % ((2 ^ 64 : Nat) : Int)).toNat % 2 ^ k) < 2 ^ k := Nat.mod_lt _ hp0
  rw [← h2]
  omega
theorem pick_any {w : World} {A : Option Addr} {cap : Nat} {p : List Int} (hp : IntsAt w A p) (_hl : p.length ≤ maxLen) (i : Nat) (hi : i ≤ 1000000) :
    Calls Try.prog 39 #[.slice A p.length cap, .int .i64 i] w fun e w' => e = .returned (.int .i64 (pickF p i : Nat)) ∧ w = w' := by
  unfold maxLen at _hl
  by_cases h : i < p.length
  · obtain ⟨b, o, rfl, hlt, hc⟩ := hp i h
    have hm := and_low p[i] 24 (by omega)
    have hf : ((pickF p i : Nat) : Int) = p[i] % 16777216 := by
      unfold pickF
      rw [List.getElem?_eq_getElem h]
      show (((p[i] % 16777216).toNat : Nat) : Int) = _
      omega
    rw [hf]
    have hm2 : bits BinOp.and IntKind.i64 p[i] 16777215 = p[i] % 16777216 := hm
    have hI : (i : Int) < p.length := by omega
    clear hm hf
    go_enter Try.func39, Try.ntmps39
    go_wp2_with fail
    go_ret
    exact ⟨rfl, rfl⟩
  · have hm := and_low ((i : Int) * 7919) 16 (by omega)
    have hm2 : bits BinOp.and IntKind.i64 ((i : Int) * 7919) 65535 = ((i : Int) * 7919) % 65536 := hm
    have hf : ((pickF p i : Nat) : Int) = ((i : Int) * 7919) % 65536 := by
      unfold pickF
      rw [List.getElem?_eq_none (by omega)]
      show ((i * 7919 % 65536 : Nat) : Int) = _
      omega
    rw [hf]
    have hI : ¬ (i : Int) < p.length := by omega
    clear hm hf
    go_enter Try.func39, Try.ntmps39
    go_wp2_with fail
    go_ret
    exact ⟨rfl, rfl⟩
theorem two_nums (a b : Nat) (ha : a < 26) (hb : b < 26) : strOfNums [97 + (a : Int), 97 + (b : Int)] = ⟨#[UInt8.ofNat (97 + a), UInt8.ofNat (97 + b)]⟩ := by
  have h : ∀ x : Fin 26, ((97 + ((x.val : Nat) : Int)).toNat.toUInt8 = UInt8.ofNat (97 + x.val)) := by decide +kernel
  have h1 := h ⟨a, ha⟩
  have h2 := h ⟨b, hb⟩
  simp only at h1 h2
  unfold strOfNums
  simp [h1, h2]
theorem id_any (s : ByteArray) (hs : s.size ≤ 100) (n : Nat) (hn : n ≤ 1000000) (w : World) :
    Calls Try.prog 75 #[.string s, .int .i64 n] w fun e w' => e = .returned (.string (idF s n)) ∧ Below w.heap.size w w' := by
  have hf := two_nums (n / 26 % 26) (n % 26) (by omega) (by omega)
  obtain ⟨S, hS⟩ : ∃ S : ByteArray, S = ⟨#[UInt8.ofNat (97 + n / 26 % 26), UInt8.ofNat (97 + n % 26)]⟩ := ⟨_, rfl⟩
  have hSz : S.size = 2 := by rw [hS]; rfl
  have hfin : s ++ S = idF s n := by rw [hS]; rfl
  rw [← hS] at hf
  have e1 : ((n / 26 % 26 : Nat) : Int) = (n : Int) / 26 % 26 := by omega
  have e2 : ((n % 26 : Nat) : Int) = (n : Int) % 26 := by omega
  rw [e1, e2] at hf
  have Hfin := Lib.hid hfin
  have b1 : (n : Int) / 26 % 26 < 26 := by omega
  have b2 : (0 : Int) ≤ (n : Int) / 26 % 26 := by omega
  have b3 : (n : Int) % 26 < 26 := by omega
  have b4 : (0 : Int) ≤ (n : Int) % 26 := by omega
  have b5 : (0 : Int) ≤ (n : Int) / 26 := by omega
  clear hS hfin e1 e2
  go_enter Try.func75, Try.ntmps75
  go_wp2_with fail
  go_ret
  exact ⟨ret_str Hfin.out, (Below.refl _ _).alloc (Nat.le_refl _) _⟩
end Go.Proofs.Yteoioboiniealaa
