/- Plain law: what a generated choreography's graph is: degrees, paths, no edge twice, Plain law: generated choreographies keep to the rules, Plain law: the generator's documents keep to the rules, joined. -/
import Derived.Test.YtljmghaplnkohaaRulCon
import Derived.Test.YtljmghaplnkohaaIdsLaw
import Derived.Test.YtljmghaplnkohaaRulCoo
import Derived.Test.YtljmghaplnkohaaIdsYZ
namespace Go.Proofs.Ytljmghaplnkohaa
open Go.RowKit

theorem inN_eq (s : List SeqD) (a : ByteArray) : inN s a = (s.filter fun x => eqS x.dst a).length := cntN_all _ _ _ (Nat.le_refl _)
theorem outN_eq (s : List SeqD) (a : ByteArray) : outN s a = (s.filter fun x => eqS x.src a).length := cntN_all _ _ _ (Nat.le_refl _)
theorem eqS_ne {a b : ByteArray} (h : a ≠ b) : eqS a b = false := by
  cases h2 : eqS a b
  · rfl
  · exact absurd ((eqS_iff a b).1 h2) h
theorem inN_snoc (s : List SeqD) (q : SeqD) (a : ByteArray) : inN (s ++ [q]) a = inN s a + if a = q.dst then 1 else 0 := by
  rw [inN_eq, inN_eq, List.filter_append, List.length_append, List.filter_cons, List.filter_nil]
  by_cases h : a = q.dst
  · rw [if_pos h, if_pos ((eqS_iff _ _).2 h.symm)]; rfl
  · rw [if_neg h, if_neg (by rw [eqS_ne (fun e => h e.symm)]; decide)]; rfl
theorem outN_snoc (s : List SeqD) (q : SeqD) (a : ByteArray) : outN (s ++ [q]) a = outN s a + if a = q.src then 1 else 0 := by
  rw [outN_eq, outN_eq, List.filter_append, List.length_append, List.filter_cons, List.filter_nil]
  by_cases h : a = q.src
  · rw [if_pos h, if_pos ((eqS_iff _ _).2 h.symm)]; rfl
  · rw [if_neg h, if_neg (by rw [eqS_ne (fun e => h e.symm)]; decide)]; rfl
theorem inN_zero {s : List SeqD} {a : ByteArray} (h : ∀ q ∈ s, q.dst ≠ a) : inN s a = 0 := by
  rw [inN_eq, List.length_eq_zero_iff, List.filter_eq_nil_iff]
  intro q hq
  rw [eqS_ne (h q hq)]
  decide
theorem outN_zero {s : List SeqD} {a : ByteArray} (h : ∀ q ∈ s, q.src ≠ a) : outN s a = 0 := by
  rw [outN_eq, List.length_eq_zero_iff, List.filter_eq_nil_iff]
  intro q hq
  rw [eqS_ne (h q hq)]
  decide
/-- One can go from one to another. -/
inductive Path (s : List SeqD) (a : ByteArray) : ByteArray → Prop
  | refl : Path s a a
  | step {b : ByteArray} (q : SeqD) (h : Path s a b) (hq : q ∈ s) (he : q.src = b) : Path s a q.dst
theorem Path.mono {s s' : List SeqD} {a b : ByteArray} (h : Path s a b) (hs : ∀ q ∈ s, q ∈ s') : Path s' a b := by
  induction h with
  | refl => exact .refl
  | step q _ hq he ih => exact .step q ih (hs q hq) he
theorem Path.trans {s : List SeqD} {a b c : ByteArray} (h : Path s a b) (k : Path s b c) : Path s a c := by
  induction k with
  | refl => exact h
  | step q _ hq he ih => exact .step q ih hq he
structure GM (m : MkD) : Prop where
  num : ∀ x ∈ m.items, numOf x.id ≤ m.n
  ends : ∀ q ∈ m.seqs, HasI m q.src ∧ HasI m q.dst
  ids : (m.items.map (·.id)).Nodup
  self : ∀ q ∈ m.seqs, q.src ≠ q.dst
  pair : (m.seqs.map fun q => (q.src, q.dst)).Nodup
section
variable {m m1 m2 : MkD}
theorem GM.fresh (h : GM m) (hn : m.n + 1 < 676) (s : ByteArray) : ¬ HasI m (gnameF m s) := fun ⟨x, hx, e⟩ => by
  have h1 := h.num x hx
  rw [e, num_name hn] at h1
  omega
theorem GM.noseq (h : GM m) {a : ByteArray} (ha : ¬ HasI m a) : ∀ q ∈ m.seqs, q.src ≠ a ∧ q.dst ≠ a := fun q hq => ⟨fun e => ha (e ▸ (h.ends q hq).1), fun e => ha (e ▸ (h.ends q hq).2)⟩
theorem GM.next (h : GM m) : GM (gnextF m) := ⟨h.num, h.ends, h.ids, h.self, h.pair⟩
theorem GM.push (h : GM m) (hn : m.n + 1 < 676) (x : ItemD) (s : ByteArray) (hx : x.id = gnameF m s) (m' : MkD) (hi : m'.items = m.items ++ [x]) (hs : m'.seqs = m.seqs) (hnn : m.n + 1 ≤ m'.n) : GM m' := by
  have more : MoreI m m' := ⟨[x], hi⟩
  refine ⟨fun y hy => ?_, fun q hq => ?_, ?_, fun q hq => h.self q (hs ▸ hq), by rw [hs]; exact h.pair⟩
  · rw [hi] at hy
    rcases List.mem_append.1 hy with hy | hy
    · have := h.num y hy; omega
    · rw [List.mem_singleton.1 hy, hx, num_name hn]; omega
  · rw [hs] at hq
    exact ⟨(h.ends q hq).1.more more, (h.ends q hq).2.more more⟩
  · rw [hi, List.map_append, List.map_cons, List.map_nil]
    refine List.nodup_append.2 ⟨h.ids, by simp, fun a ha b hb e => ?_⟩
    obtain ⟨y, hy, e2⟩ := List.mem_map.1 ha
    rw [List.mem_singleton.1 hb, hx] at e
    exact h.fresh hn s ⟨y, hy, e2.trans e⟩
theorem GM.edge (h : GM m) {a b : ByteArray} (ha : HasI m a) (hb : HasI m b) (hne : a ≠ b) (hp : ∀ q ∈ m.seqs, ¬ (q.src = a ∧ q.dst = b)) : GM (gseqF m a b) := by
  refine ⟨fun x hx => Nat.le_succ_of_le (h.num x hx), fun q hq => ?_, h.ids, fun q hq => ?_, ?_⟩
  · have hq' : q ∈ m.seqs ++ [⟨gnameF m chS, a, b⟩] := hq
    rcases List.mem_append.1 hq' with hq | hq
    · exact ⟨(h.ends q hq).1.more (more_seq m a b), (h.ends q hq).2.more (more_seq m a b)⟩
    · rw [List.mem_singleton.1 hq]; exact ⟨ha.more (more_seq m a b), hb.more (more_seq m a b)⟩
  · have hq' : q ∈ m.seqs ++ [⟨gnameF m chS, a, b⟩] := hq
    rcases List.mem_append.1 hq' with hq | hq
    · exact h.self q hq
    · rw [List.mem_singleton.1 hq]; exact hne
  · show ((m.seqs ++ [(⟨gnameF m chS, a, b⟩ : SeqD)]).map fun q : SeqD => (q.src, q.dst)).Nodup
    rw [List.map_append, List.map_cons, List.map_nil]
    refine List.nodup_append.2 ⟨h.pair, by simp, fun p hp1 r hr e => ?_⟩
    obtain ⟨q, hq, e2⟩ := List.mem_map.1 hp1
    rw [List.mem_singleton.1 hr] at e
    rw [← e2] at e
    injection e with e3 e4
    exact hp q hq ⟨e3, e4⟩
theorem in_seq (m : MkD) (a b c : ByteArray) : inN (gseqF m a b).seqs c = inN m.seqs c + if c = b then 1 else 0 := inN_snoc m.seqs (⟨gnameF m chS, a, b⟩ : SeqD) c
theorem out_seq (m : MkD) (a b c : ByteArray) : outN (gseqF m a b).seqs c = outN m.seqs c + if c = a then 1 else 0 := outN_snoc m.seqs (⟨gnameF m chS, a, b⟩ : SeqD) c
theorem nodup_same {l : List ItemD} (h : (l.map (·.id)).Nodup) {x y : ItemD} (hx : x ∈ l) (hy : y ∈ l) (e : x.id = y.id) : x = y := by
  induction l with
  | nil => cases hx
  | cons z l ih =>
    rw [List.map_cons, List.nodup_cons] at h
    rcases List.mem_cons.1 hx with rfl | kx
    · rcases List.mem_cons.1 hy with rfl | ky
      · rfl
      · exact (h.1 (List.mem_map.2 ⟨y, ky, e.symm⟩)).elim
    · rcases List.mem_cons.1 hy with rfl | ky
      · exact (h.1 (List.mem_map.2 ⟨x, kx, e⟩)).elim
      · exact ih h.2 kx ky
theorem same_item (hg : GM m1) (hm : MoreI m m1) {x : ItemD} (hx : x ∈ m1.items) (h : HasI m x.id) : x ∈ m.items := by
  obtain ⟨y, hy, e⟩ := h
  obtain ⟨l, hl⟩ := hm
  have : y = x := nodup_same hg.ids (by rw [hl]; exact List.mem_append_left _ hy) hx e
  rw [← this]; exact hy
/-- What is made behind an item: each but the open ends has what it needs. -/
structure PR (m : MkD) (src : ByteArray) (E : ByteArray → Prop) (m' : MkD) : Prop where
  gm : GM m'
  more : MoreI m m'
  new : ∀ x ∈ m'.items, ¬ HasI m x.id → (x.kind = 3 ∨ x.kind = 4 ∨ x.kind = 5) ∧ 1 ≤ inN m'.seqs x.id ∧ (E x.id → x.kind = 3 → outN m'.seqs x.id = 0) ∧ (¬ E x.id → (x.kind = 3 → outN m'.seqs x.id = 1) ∧ (x.kind ≠ 3 → 1 ≤ outN m'.seqs x.id)) ∧ Path m'.seqs src x.id
  ex : ∀ y, E y → HasI m' y ∧ ¬ HasI m y
  inn : ∀ a, HasI m a → inN m'.seqs a = inN m.seqs a
  out : ∀ a, HasI m a → outN m'.seqs a = outN m.seqs a + if a = src then 1 else 0
  sub : ∀ q ∈ m.seqs, q ∈ m'.seqs
theorem PR.trans {src a : ByteArray} {E E2 : ByteArray → Prop} (h : PR m src E m1) (k : PR m1 a E2 m2) (ha : ¬ HasI m a) (hh : HasI m1 a) (hA : ∀ x ∈ m1.items, x.id = a → E a ∨ x.kind ≠ 3) : PR m src (fun y => (E y ∧ y ≠ a) ∨ E2 y) m2 := by
  have pa : Path m2.seqs src a := by
    obtain ⟨y, hy, e⟩ := hh
    have := (h.new y hy (by rw [e]; exact ha)).2.2.2.2
    rw [e] at this
    exact this.mono k.sub
  refine ⟨k.gm, h.more.trans k.more, fun x hx hn => ?_, fun y hy => ?_, fun b hb => ?_, fun b hb => ?_, fun q hq => k.sub q (h.sub q hq)⟩
  · by_cases h1 : HasI m1 x.id
    · have hx1 := same_item k.gm k.more hx h1
      obtain ⟨p1, p2, p3, p4, p5⟩ := h.new x hx1 hn
      have hE2 : ¬ E2 x.id := fun e => (k.ex _ e).2 h1
      have hi := k.inn _ h1
      have ho := k.out _ h1
      refine ⟨p1, by omega, fun e k3 => ?_, fun e => ?_, p5.mono k.sub⟩
      · rcases e with ⟨e1, e2⟩ | e
        · rw [if_neg e2] at ho
          have := p3 e1 k3; omega
        · exact absurd e hE2
      · by_cases hxa : x.id = a
        · rw [if_pos hxa] at ho
          rcases hA x hx1 hxa with he | he
          · rw [← hxa] at he
            exact ⟨fun k3 => by have := p3 he k3; omega, fun _ => by omega⟩
          · exact ⟨fun k3 => absurd k3 he, fun _ => by omega⟩
        · rw [if_neg hxa] at ho
          have hE : ¬ E x.id := fun he => e (.inl ⟨he, hxa⟩)
          obtain ⟨q1, q2⟩ := p4 hE
          exact ⟨fun k3 => by have := q1 k3; omega, fun k3 => by have := q2 k3; omega⟩
    · obtain ⟨p1, p2, p3, p4, p5⟩ := k.new x hx h1
      refine ⟨p1, p2, fun e k3 => ?_, fun e => p4 (fun he => e (.inr he)), pa.trans p5⟩
      rcases e with ⟨e1, _⟩ | e
      · exact absurd (h.ex _ e1).1 h1
      · exact p3 e k3
  · rcases hy with ⟨h1, _⟩ | h1
    · exact ⟨(h.ex y h1).1.more k.more, (h.ex y h1).2⟩
    · exact ⟨(k.ex y h1).1, fun e => (k.ex y h1).2 (e.more h.more)⟩
  · rw [k.inn b (hb.more h.more), h.inn b hb]
  · rw [k.out b (hb.more h.more), h.out b hb, if_neg (show ¬ b = a from fun e => ha (e ▸ hb))]
    omega
/-- An edge between what was made. -/
theorem PR.edge {src u v : ByteArray} {E : ByteArray → Prop} (h : PR m src E m1) (hu : HasI m1 u) (hv : HasI m1 v) (nu : ¬ HasI m u) (nv : ¬ HasI m v) (hne : u ≠ v) (hp : ∀ q ∈ m1.seqs, ¬ (q.src = u ∧ q.dst = v)) (hU : ∀ x ∈ m1.items, x.id = u → E u ∨ x.kind ≠ 3) : PR m src (fun y => E y ∧ y ≠ u) (gseqF m1 u v) := by
  have sub : ∀ q ∈ m1.seqs, q ∈ (gseqF m1 u v).seqs := fun q hq => List.mem_append_left _ hq
  refine ⟨h.gm.edge hu hv hne hp, h.more.trans (more_seq m1 u v), fun x hx hn => ?_, fun y hy => ⟨(h.ex y hy.1).1.more (more_seq m1 u v), (h.ex y hy.1).2⟩, fun b hb => ?_, fun b hb => ?_, fun q hq => sub q (h.sub q hq)⟩
  · obtain ⟨p1, p2, p3, p4, p5⟩ := h.new x hx hn
    have hi := in_seq m1 u v x.id
    have ho := out_seq m1 u v x.id
    refine ⟨p1, by omega, fun e k3 => ?_, fun e => ?_, p5.mono sub⟩
    · rw [if_neg e.2] at ho
      have := p3 e.1 k3; omega
    · by_cases hxu : x.id = u
      · rw [if_pos hxu] at ho
        rcases hU x hx hxu with he | he
        · rw [← hxu] at he
          exact ⟨fun k3 => by have := p3 he k3; omega, fun _ => by omega⟩
        · exact ⟨fun k3 => absurd k3 he, fun _ => by omega⟩
      · rw [if_neg hxu] at ho
        obtain ⟨q1, q2⟩ := p4 (fun he => e ⟨he, hxu⟩)
        exact ⟨fun k3 => by have := q1 k3; omega, fun k3 => by have := q2 k3; omega⟩
  · rw [in_seq, h.inn b hb, if_neg (show ¬ b = v from fun e => nv (e ▸ hb))]; rfl
  · rw [out_seq, h.out b hb, if_neg (show ¬ b = u from fun e => nu (e ▸ hb))]; omega
theorem PR.next {src : ByteArray} {E : ByteArray → Prop} (h : PR (gnextF m) src E m1) : PR m src E m1 := ⟨h.gm, h.more, h.new, h.ex, h.inn, h.out, h.sub⟩
/-- One item more, behind another. -/
theorem PR.one (h : GM m) {src : ByteArray} (hs : HasI m src) (hn : m.n + 1 < 676) (x : ItemD) (ch : ByteArray) (hx : x.id = gnameF m ch) (hk : x.kind = 3 ∨ x.kind = 4 ∨ x.kind = 5) (mp : MkD) (hi : mp.items = m.items ++ [x]) (hq : mp.seqs = m.seqs) (hnn : m.n + 1 ≤ mp.n) : PR m src (fun y => y = x.id) (gseqF mp src x.id) := by
  have g1 := h.push hn x ch hx mp hi hq hnn
  have more : MoreI m mp := ⟨[x], hi⟩
  have hf : ¬ HasI m x.id := by rw [hx]; exact h.fresh hn ch
  have hne : src ≠ x.id := fun e => hf (e ▸ hs)
  have hxm : HasI mp x.id := ⟨x, by rw [hi]; simp, rfl⟩
  have noq := h.noseq hf
  have g2 : GM (gseqF mp src x.id) := g1.edge (hs.more more) hxm hne (fun q hq' e => (noq q (hq ▸ hq')).2 e.2)
  refine ⟨g2, more.trans (more_seq mp src x.id), fun y hy hny => ?_, fun y hy => ⟨by rw [hy]; exact hxm.more (more_seq mp src x.id), by rw [hy]; exact hf⟩, fun b hb => ?_, fun b hb => ?_, fun q hq' => List.mem_append_left _ (hq ▸ hq')⟩
  · have hy' : y ∈ mp.items := hy
    rw [hi] at hy'
    rcases List.mem_append.1 hy' with hy' | hy'
    · exact absurd ⟨y, hy', rfl⟩ hny
    · rw [List.mem_singleton.1 hy']
      refine ⟨hk, by rw [in_seq, if_pos rfl]; omega, fun _ _ => ?_, fun e => absurd rfl e, ?_⟩
      · rw [out_seq, if_neg (Ne.symm hne), hq, outN_zero (fun q hq' => (noq q hq').1)]
      · exact Path.step (s := (gseqF mp src x.id).seqs) ⟨gnameF mp chS, src, x.id⟩ .refl (List.mem_append_right _ (List.mem_singleton.2 rfl)) rfl
  · rw [in_seq, hq, if_neg (show ¬ b = x.id from fun e => hf (e ▸ hb))]; rfl
  · rw [out_seq, hq]
end
theorem gpart_n : ∀ (d : Nat) (m : MkD) (src : ByteArray), m.n + 1 ≤ (gpartF d m src).2.n
  | 0, m, src => by
    rw [gpartF_leaf (.inl rfl)]
    show m.n + 1 ≤ m.n + (if gback _ then 3 else 2) + 1
    split <;> omega
  | d + 1, m, src => by
    by_cases h1 : pickF m.p m.at_ % 8 < 3 ∨ 9 < m.items.length
    · rw [gpartF_leaf (.inr h1)]
      show m.n + 1 ≤ m.n + (if gback _ then 3 else 2) + 1
      split <;> omega
    · by_cases h5 : pickF m.p m.at_ % 8 < 5
      · rw [gpartF_seq h1 h5]
        have a := gpart_n d (gnextF m) src
        have b := gpart_n d (gpartF d (gnextF m) src).2 (gpartF d (gnextF m) src).1
        have : (gnextF m).n = m.n := rfl
        omega
      · rw [gpartF_both h1 h5]
        dsimp only
        have a := gpart_n d (gopenF (gnextF m) src (pickF m.p m.at_ % 8)) (gnameF (gnextF m) chG)
        have b := gpart_n d (gpartF d (gopenF (gnextF m) src (pickF m.p m.at_ % 8)) (gnameF (gnextF m) chG)).2 (gnameF (gnextF m) chG)
        have c : (gopenF (gnextF m) src (pickF m.p m.at_ % 8)).n = m.n + 2 := rfl
        unfold gcloseF
        dsimp only
        split
        · show m.n + 1 ≤ _ + 1 + 1 + 1 + 1; omega
        · show m.n + 1 ≤ _ + 1 + 1 + 1; omega
/-- A part has one open end. -/
structure PT (m : MkD) (src : ByteArray) (r : ByteArray × MkD) : Prop where
  pr : ∃ E, PR m src E r.2 ∧ (∀ y, E y → y = r.1) ∧ (∀ x ∈ r.2.items, x.id = r.1 → E r.1 ∨ x.kind ≠ 3)
  has : HasI r.2 r.1
  new : ¬ HasI m r.1
theorem PR.weaken {m m1 : MkD} {src : ByteArray} {E E2 : ByteArray → Prop} (h : PR m src E m1) (he : ∀ y, E y ↔ E2 y) : PR m src E2 m1 :=
  ⟨h.gm, h.more, fun x hx hn => by obtain ⟨a, b, c, d, e⟩ := h.new x hx hn; exact ⟨a, b, fun k => c ((he _).2 k), fun k => d (fun k2 => k ((he _).1 k2)), e⟩, fun y hy => h.ex y ((he y).2 hy), h.inn, h.out, h.sub⟩
theorem leaf_pt {m : MkD} (h : GM m) {src : ByteArray} (hs : HasI m src) (x : Nat) (hn : m.n + 1 < 676) : PT m src (gleafF m src x) := by
  have p := PR.one h hs hn (gtaskI m x) chT rfl (.inl rfl) (gtaskF m x) rfl rfl (by show m.n + 1 ≤ m.n + (if gback x then 3 else 2); split <;> omega)
  exact ⟨⟨_, p, fun y hy => hy, fun y _ _ => .inl rfl⟩, (p.ex _ rfl).1, (p.ex _ rfl).2⟩
theorem open_pr {m : MkD} (h : GM m) {src : ByteArray} (hs : HasI m src) (k : Nat) (hn : m.n + 1 < 676) : PR m src (fun y => y = gnameF m chG) (gopenF m src k) :=
  PR.one h hs hn (gitem0 (gkind k) (gnameF m chG)) chG rfl (by rcases gkind_or k with e | e; exact .inr (.inl e); exact .inr (.inr e)) (gitemF (gnamedF m) (gitem0 (gkind k) (gnameF m chG))) rfl rfl (Nat.le_refl _)
theorem part_pt : ∀ (d : Nat) (m : MkD) (src : ByteArray), GM m → HasI m src → (gpartF d m src).2.n ≤ 600 → PT m src (gpartF d m src)
  | 0, m, src, h, hs, hn => by
    have h0 := gpart_n 0 m src
    rw [gpartF_leaf (.inl rfl)] at hn h0 ⊢
    have p := leaf_pt h.next (src := src) hs (pickF m.p m.at_ / 8) (by show m.n + 1 < 676; omega)
    obtain ⟨E, hE, h1, h2⟩ := p.pr
    exact ⟨⟨E, hE.next, h1, h2⟩, p.has, p.new⟩
  | d + 1, m, src, h, hs, hn => by
    have h0 := gpart_n (d + 1) m src
    by_cases h1 : pickF m.p m.at_ % 8 < 3 ∨ 9 < m.items.length
    · rw [gpartF_leaf (.inr h1)] at hn h0 ⊢
      have p := leaf_pt h.next (src := src) hs (pickF m.p m.at_ / 8) (by show m.n + 1 < 676; omega)
      obtain ⟨E, hE, h1, h2⟩ := p.pr
      exact ⟨⟨E, hE.next, h1, h2⟩, p.has, p.new⟩
    · by_cases h5 : pickF m.p m.at_ % 8 < 5
      · rw [gpartF_seq h1 h5] at hn ⊢
        have b := gpart_n d (gpartF d (gnextF m) src).2 (gpartF d (gnextF m) src).1
        have p := part_pt d (gnextF m) src h.next hs (by omega)
        obtain ⟨E, hE, e1, e2⟩ := p.pr
        have q := part_pt d _ _ hE.gm p.has hn
        obtain ⟨E2, hE2, f1, f2⟩ := q.pr
        have t := hE.trans hE2 p.new p.has e2
        refine ⟨⟨_, t.next.weaken (E2 := E2) (fun y => ⟨fun k => ?_, .inr⟩), f1, f2⟩, q.has, fun k => q.new (k.more hE.more)⟩
        rcases k with ⟨k1, k2⟩ | k
        · exact absurd (e1 y k1) k2
        · exact k
      · rw [gpartF_both h1 h5] at hn ⊢
        dsimp only at hn ⊢
        obtain ⟨k, hk⟩ : ∃ k, k = pickF m.p m.at_ % 8 := ⟨_, rfl⟩
        obtain ⟨x, hx⟩ : ∃ x, x = pickF m.p m.at_ := ⟨_, rfl⟩
        rw [← hk] at hn ⊢
        rw [← hx] at hn ⊢
        obtain ⟨a, ha⟩ : ∃ a, a = gnameF (gnextF m) chG := ⟨_, rfl⟩
        obtain ⟨mo, hmo⟩ : ∃ t, t = gopenF (gnextF m) src k := ⟨_, rfl⟩
        rw [← ha, ← hmo] at hn ⊢
        obtain ⟨r, hr⟩ : ∃ r, r = gpartF d mo a := ⟨_, rfl⟩
        rw [← hr] at hn ⊢
        obtain ⟨q, hq⟩ : ∃ q, q = gpartF d r.2 a := ⟨_, rfl⟩
        rw [← hq] at hn ⊢
        have n1 : mo.n = m.n + 2 := by rw [hmo]; rfl
        have n2 : mo.n + 1 ≤ r.2.n := by rw [hr]; exact gpart_n d mo a
        have n3 : r.2.n + 1 ≤ q.2.n := by rw [hq]; exact gpart_n d r.2 a
        have n4 : q.2.n + 3 ≤ 600 := by
          unfold gcloseF at hn
          dsimp only at hn
          split at hn
          · have : q.2.n + 1 + 1 + 1 + 1 ≤ 600 := hn; omega
          · exact hn
        have po : PR (gnextF m) src (fun y => y = a) mo := by rw [hmo, ha]; exact open_pr h.next hs k (by show m.n + 1 < 676; omega)
        have aI : HasI mo a := (po.ex a rfl).1
        have aN : ¬ HasI m a := (po.ex a rfl).2
        have pr : PT mo a r := by rw [hr]; exact part_pt d mo a po.gm aI (by rw [← hr]; omega)
        obtain ⟨E, hE, e1, e2⟩ := pr.pr
        have t1 := po.trans hE aN aI (fun _ _ _ => .inl rfl)
        have pq : PT r.2 a q := by rw [hq]; exact part_pt d r.2 a hE.gm (aI.more hE.more) (by rw [← hq]; omega)
        obtain ⟨E2, hE2, f1, f2⟩ := pq.pr
        have ka : ∀ y ∈ mo.items, y.id = a → y.kind ≠ 3 := fun y hy e => by
          have hy' : y ∈ m.items ++ [gitem0 (gkind k) a] := by rw [hmo] at hy; rw [ha]; exact hy
          rcases List.mem_append.1 hy' with hy' | hy'
          · exact absurd ⟨y, hy', e⟩ aN
          · rw [List.mem_singleton.1 hy']
            intro e3
            rcases gkind_or k with g | g <;> (have : gkind k = 3 := e3; omega)
        have kar : ∀ y ∈ r.2.items, y.id = a → y.kind ≠ 3 := fun y hy e => ka y (same_item hE.gm hE.more hy (e ▸ aI)) e
        have aIr : HasI r.2 a := aI.more hE.more
        have t2 := t1.trans hE2 aN aIr (fun y hy e => .inr (kar y hy e))
        have s1 : r.1 ≠ a := fun e => pr.new (e ▸ aI)
        have sI : HasI q.2 r.1 := pr.has.more hE2.more
        have sN : ¬ HasI m r.1 := fun e => pr.new (e.more po.more)
        have st : r.1 ≠ q.1 := fun e => pq.new (e ▸ pr.has)
        have tN : ¬ HasI m q.1 := fun e => pq.new ((e.more po.more).more hE.more)
        -- the closing gateway, behind the first way's end
        obtain ⟨b, hb⟩ : ∃ b, b = gnameF q.2 chG := ⟨_, rfl⟩
        have pc : PR q.2 r.1 (fun y => y = b) (gopenF q.2 r.1 k) := by rw [hb]; exact open_pr hE2.gm sI k (by omega)
        have t3 := t2.trans pc sN sI (fun y hy e => by
          have hy1 := same_item hE2.gm hE2.more hy (e ▸ pr.has)
          rcases e2 y hy1 e with he | he
          · exact .inl (.inl ⟨.inr he, s1⟩)
          · exact .inr he)
        have bI := (pc.ex b rfl).1
        have bN : ¬ HasI q.2 b := (pc.ex b rfl).2
        have bNm : ¬ HasI m b := fun e => bN (((e.more po.more).more hE.more).more hE2.more)
        have tb : q.1 ≠ b := fun e => bN (e ▸ pq.has)
        have tIc : HasI (gopenF q.2 r.1 k) q.1 := pq.has.more pc.more
        have noqb := hE2.gm.noseq bN
        have seqc : ∀ z ∈ (gopenF q.2 r.1 k).seqs, z ∈ q.2.seqs ∨ (z.src = r.1 ∧ z.dst = b) := fun z hz => by
          have hz' : z ∈ q.2.seqs ++ [⟨gnameF (gitemF (gnamedF q.2) (gitem0 (gkind k) (gnameF q.2 chG))) chS, r.1, gnameF q.2 chG⟩] := hz
          rcases List.mem_append.1 hz' with hz' | hz'
          · exact .inl hz'
          · rw [List.mem_singleton.1 hz', hb]; exact .inr ⟨rfl, rfl⟩
        have t4 := t3.edge tIc bI tN bNm tb (fun z hz e => by
          rcases seqc z hz with h | ⟨h, _⟩
          · exact (noqb z h).2 e.2
          · exact st (h.symm.trans e.1)) (fun y hy e => by
          have hy1 := same_item pc.gm pc.more hy (e ▸ pq.has)
          rcases f2 y hy1 e with he | he
          · exact .inl (.inl ⟨.inr he, fun e3 => st e3.symm⟩)
          · exact .inr he)
        have kb : ∀ y ∈ (gseqF (gopenF q.2 r.1 k) q.1 b).items, y.id = b → y.kind ≠ 3 := fun y hy e => by
          have hy' : y ∈ q.2.items ++ [gitem0 (gkind k) (gnameF q.2 chG)] := hy
          rcases List.mem_append.1 hy' with hy' | hy'
          · exact absurd ⟨y, hy', e⟩ bN
          · rw [List.mem_singleton.1 hy']
            intro e3
            rcases gkind_or k with g | g <;> (have : gkind k = 3 := e3; omega)
        have bI4 : HasI (gseqF (gopenF q.2 r.1 k) q.1 b) b := bI.more (more_seq _ _ _)
        have ends : ∀ y, ((((((y = a ∧ y ≠ a) ∨ E y) ∧ y ≠ a) ∨ E2 y) ∧ y ≠ r.1) ∨ y = b) ∧ y ≠ q.1 → y = b := fun y hy => by
          obtain ⟨h1, h2⟩ := hy
          rcases h1 with ⟨h3, h4⟩ | h3
          · rcases h3 with ⟨h5, _⟩ | h5
            · rcases h5 with ⟨h6, h7⟩ | h6
              · exact absurd h6 h7
              · exact absurd (e1 y h6) h4
            · exact absurd (f1 y h5) h2
          · exact h3
        have hclose : (gnameF q.2 chG, gcloseF q.2 a r.1 q.1 k x) = (b, if k ≠ 7 ∧ x / 1048576 % 4 = 0 then gseqF (gseqF (gopenF q.2 r.1 k) q.1 b) b a else gseqF (gopenF q.2 r.1 k) q.1 b) := by rw [hb]; rfl
        rw [hclose]
        split
        · have aIq : HasI (gseqF (gopenF q.2 r.1 k) q.1 b) a := ((aIr.more hE2.more).more pc.more).more (more_seq _ _ _)
          have ba : b ≠ a := fun e => bN (e ▸ (aIr.more hE2.more))
          have t5 := t4.edge bI4 aIq bNm aN ba (fun z hz e => by
            have hz' : z ∈ (gopenF q.2 r.1 k).seqs ++ [⟨gnameF (gopenF q.2 r.1 k) chS, q.1, b⟩] := hz
            rcases List.mem_append.1 hz' with hz' | hz'
            · rcases seqc z hz' with h | ⟨h, h'⟩
              · exact (noqb z h).1 e.1
              · exact ba (h'.symm.trans e.2)
            · rw [List.mem_singleton.1 hz'] at e; exact tb e.1) (fun y hy e => .inr (kb y hy e))
          refine ⟨⟨_, t5.next, fun y hy => ends y hy.1, fun y hy e => .inr (kb y hy e)⟩, bI4.more (more_seq _ _ _), bNm⟩
        · exact ⟨⟨_, t4.next, ends, fun y hy e => .inr (kb y hy e)⟩, bI4, bNm⟩
end Go.Proofs.Ytljmghaplnkohaa
namespace Go.Proofs.Ytljmghaplnkohaa
open Go.RowKit

theorem inN_app (s r : List SeqD) (a : ByteArray) : inN (s ++ r) a = inN s a + inN r a := by rw [inN_eq, inN_eq, inN_eq, List.filter_append, List.length_append]
theorem outN_app (s r : List SeqD) (a : ByteArray) : outN (s ++ r) a = outN s a + outN r a := by rw [outN_eq, outN_eq, outN_eq, List.filter_append, List.length_append]
theorem kindN_eq (l : List ItemD) (k : Int) : kindN l k = (l.filter fun x => x.kind == k).length := cntN_all _ _ _ (Nat.le_refl _)
theorem deg_ok {s : List SeqD} {x : ItemD} (h : (x.kind = 1 ∧ inN s x.id = 0 ∧ outN s x.id = 1) ∨ (x.kind = 2 ∧ 1 ≤ inN s x.id ∧ outN s x.id = 0) ∨ ((x.kind = 3 ∨ x.kind = 7 ∨ x.kind = 8) ∧ 1 ≤ inN s x.id ∧ outN s x.id = 1) ∨ ((x.kind = 4 ∨ x.kind = 5) ∧ 1 ≤ inN s x.id ∧ 1 ≤ outN s x.id)) : degF s x.kind x.id = 0 := by
  unfold degF
  generalize x.kind = k at *
  generalize inN s x.id = i at *
  generalize outN s x.id = o at *
  rcases h with ⟨rfl, rfl, rfl⟩ | ⟨rfl, h1, rfl⟩ | ⟨hk, h1, rfl⟩ | ⟨hk, h1, h2⟩
  · rfl
  · have : (i == 0) = false := by simp; omega
    rw [this]; rfl
  · have : (i == 0) = false := by simp; omega
    rw [this]
    rcases hk with rfl | rfl | rfl <;> rfl
  · have : (i == 0) = false := by simp; omega
    rw [this]
    have ho : ¬ o = 0 := by omega
    rcases hk with rfl | rfl
    · show (if ((4 : Int) == 1) != false then (3 : Int) else if (4 : Int) = 2 then _ else if (4 : Int) = 4 ∨ _ then (if o = 0 then 4 else 0) else _) = 0
      rw [if_neg (by decide), if_neg (by decide), if_pos (.inl rfl), if_neg ho]
    · show (if ((5 : Int) == 1) != false then (3 : Int) else if (5 : Int) = 2 then _ else if (5 : Int) = 4 ∨ (5 : Int) = 5 ∨ _ then (if o = 0 then 4 else 0) else _) = 0
      rw [if_neg (by decide), if_neg (by decide), if_pos (.inr (.inl rfl)), if_neg ho]
theorem seqBad_ok : ∀ (pre r : List SeqD), (∀ q ∈ r, q.src ≠ q.dst) → ((pre ++ r).map fun q => (q.src, q.dst)).Nodup → seqBad pre r = (0, ⟨#[]⟩)
  | _, [], _, _ => rfl
  | pre, q :: r, h, hn => by
    rw [seqBad, if_neg]
    · exact seqBad_ok (pre ++ [q]) r (fun z hz => h z (List.mem_cons_of_mem _ hz)) (by simpa using hn)
    · rw [eqS_ne (h q (List.mem_cons_self ..)), Bool.false_or]
      intro e
      obtain ⟨z, hz, he⟩ := List.any_eq_true.1 e
      unfold sameQ at he
      rw [Bool.and_eq_true, eqS_iff, eqS_iff] at he
      rw [List.map_append, List.map_cons] at hn
      exact (List.nodup_append.1 hn).2.2 (z.src, z.dst) (List.mem_map.2 ⟨z, hz, rfl⟩) (q.src, q.dst) (List.mem_cons_self ..) (by rw [he.1, he.2])
theorem item_at {l : List ItemD} (hn : (l.map (·.id)).Nodup) {k : Nat} (hk : k < l.length) : itemK l l[k].id = (k : Int) := by
  have h := find_at (fun x : ItemD => x.id) 0 hk hn
  rw [Nat.zero_add] at h
  exact h
theorem idAt_at {l : List ItemD} {i : Nat} (h : i < l.length) : idAt l i = l[i].id := by
  unfold idAt
  rw [List.getElem?_eq_getElem h]
  rfl
theorem reach_path {l : List ItemD} {s : List SeqD} {x0 : ItemD} (hn : (l.map (·.id)).Nodup) (h0 : x0 ∈ l) (h1 : x0.kind = 1) (hs : ∀ q ∈ s, ∃ x ∈ l, x.id = q.src) {b : ByteArray} (hp : Path s x0.id b) : ∀ k (h : k < l.length), l[k].id = b → Reach l s k := by
  induction hp with
  | refl =>
    intro k hk e
    have : l[k] = x0 := nodup_same hn (List.getElem_mem hk) h0 e
    exact .start k hk (by unfold isSt; rw [this, h1]; rfl)
  | step q hp hq he ih =>
    intro k hk e
    obtain ⟨y, hy, e2⟩ := hs q hq
    obtain ⟨i, hi, e3⟩ := List.getElem_of_mem hy
    refine .step i k q (ih i hi (by rw [e3, e2, he])) hq ?_ ?_
    · rw [idAt_at hi, e3, e2]; exact (eqS_iff _ _).2 rfl
    · rw [← e]; exact item_at hn hk
theorem rulL_ok {d : DocD} {c : ChorD} {L : List ItemD} {S : List SeqD} : ∀ {l : List ItemD}, (∀ x ∈ l, rulI d c L S x = (0, ⟨#[]⟩)) → rulL d c L S l = (0, ⟨#[]⟩)
  | [], _ => by rw [rulL]
  | x :: l, h => by
    rw [rulL, h x (List.mem_cons_self ..), if_neg (fun e => e rfl)]
    exact rulL_ok (fun y hy => h y (List.mem_cons_of_mem _ hy))
/-- An item that keeps to its rules, beside how many come in and go out. -/
def GoodI (d : DocD) (c : ChorD) (x : ItemD) : Prop := x.kind ≠ 6 ∧ (x.kind = 3 → taskF c x = true) ∧ (x.kind = 8 → mappedF d x = true) ∧ (x.kind = 7 → levelF d c x.items x.seqs true = (0, ⟨#[]⟩))
theorem rulI_ok {d : DocD} {c : ChorD} {L : List ItemD} {S : List SeqD} {x : ItemD} (hd : degF S x.kind x.id = 0) (h : GoodI d c x) : rulI d c L S x = (0, ⟨#[]⟩) := by
  obtain ⟨h6, h3, h8, h7⟩ := h
  have hi : itemF d c L S x = 0 := by
    unfold itemF
    rw [if_neg (fun e => e hd), if_neg, if_neg, if_neg]
    · intro e
      rw [Bool.and_eq_true, beq_iff_eq, Bool.not_eq_true'] at e
      rw [h8 e.1] at e; exact absurd e.2 (by decide)
    · intro e
      rw [Bool.and_eq_true, beq_iff_eq, Bool.not_eq_true'] at e
      rw [h3 e.1] at e; exact absurd e.2 (by decide)
    · intro e
      rw [Bool.and_eq_true, beq_iff_eq] at e
      exact h6 e.1
  rw [rulI_eq, hi, if_neg (fun e => e rfl)]
  by_cases k : x.kind = 7
  · rw [if_pos k, h7 k]
  · rw [if_neg k]
theorem level_ok {d : DocD} {c : ChorD} {l : List ItemD} {s : List SeqD} (b : Bool) (k1 : kindN l 1 = 1) (k2 : kindN l 2 = 1) (hself : ∀ q ∈ s, q.src ≠ q.dst) (hpair : (s.map fun q => (q.src, q.dst)).Nodup) (hdeg : ∀ x ∈ l, degF s x.kind x.id = 0) (hgood : ∀ x ∈ l, GoodI d c x) (hr : allReach l s) : levelF d c l s b = (0, ⟨#[]⟩) := by
  rw [levelF_on k1 (by unfold endB; rw [k2]; cases b <;> rfl), seqBad_ok [] s hself (by simpa using hpair), if_neg (fun e => e rfl), rulL_ok (fun x hx => rulI_ok (hdeg x hx) (hgood x hx)), if_neg (fun e => e rfl)]
  unfold postF
  rw [if_pos hr]
/-- A start and what is behind it, up to the one open end. -/
structure BodyOk (l : List ItemD) (s : List SeqD) (x0 : ItemD) (mid : List ItemD) (t : ByteArray) : Prop where
  eq : l = x0 :: mid
  k0 : x0.kind = 1
  mids : ∀ x ∈ mid, (x.kind = 3 ∨ x.kind = 4 ∨ x.kind = 5) ∧ 1 ≤ inN s x.id ∧ (x.id ≠ t → (x.kind = 3 → outN s x.id = 1) ∧ (x.kind ≠ 3 → 1 ≤ outN s x.id)) ∧ (x.id = t → x.kind = 3 → outN s x.id = 0) ∧ Path s x0.id x.id
  in0 : inN s x0.id = 0
  out0 : outN s x0.id = 1
  ids : (l.map (·.id)).Nodup
  ends : ∀ q ∈ s, (∃ x ∈ l, x.id = q.src) ∧ ∃ x ∈ l, x.id = q.dst
  self : ∀ q ∈ s, q.src ≠ q.dst
  pair : (s.map fun q => (q.src, q.dst)).Nodup
  ht : ∃ x ∈ mid, x.id = t
theorem body_graph (m : MkD) (deep : Nat) (hi : m.items = []) (hq : m.seqs = []) (hn : (gbodyF m deep).2.n ≤ 600) : ∃ mid, BodyOk (gbodyF m deep).2.items (gbodyF m deep).2.seqs (gitem0 1 (gnameF m chB_)) mid (gbodyF m deep).1 ∧ GM (gbodyF m deep).2 := by
  have hmn := gpart_n deep (gstartF m) (gnameF m chB_)
  have hmn' : m.n + 1 + 1 ≤ (gbodyF m deep).2.n := hmn
  have g0 : GM m := ⟨fun x hx => (by rw [hi] at hx; cases hx), fun q h => (by rw [hq] at h; cases h), by rw [hi]; exact List.nodup_nil, fun q h => (by rw [hq] at h; cases h), by rw [hq]; exact List.nodup_nil⟩
  have g1 : GM (gstartF m) := g0.push (by omega) (gitem0 1 (gnameF m chB_)) chB_ rfl (gstartF m) rfl rfl (Nat.le_refl _)
  have hB : HasI (gstartF m) (gnameF m chB_) := has_item _ _
  have p := part_pt deep (gstartF m) (gnameF m chB_) g1 hB hn
  obtain ⟨E, hE, e1, e2⟩ := p.pr
  obtain ⟨mid, hmid⟩ := hE.more
  have hst : (gstartF m).items = [gitem0 1 (gnameF m chB_)] := by unfold gstartF gitemF gnamedF; rw [hi]; rfl
  have hss : (gstartF m).seqs = [] := hq
  rw [hst] at hmid
  have heq : (gbodyF m deep).2.items = gitem0 1 (gnameF m chB_) :: mid := hmid
  have hids := hE.gm.ids
  have hnew : ∀ x ∈ mid, ¬ HasI (gstartF m) x.id := fun x hx ⟨y, hy, e⟩ => by
    rw [hst] at hy
    rw [List.mem_singleton.1 hy] at e
    have h := hids
    change ((gbodyF m deep).2.items.map (·.id)).Nodup at h
    rw [heq, List.map_cons, List.nodup_cons] at h
    exact h.1 (List.mem_map.2 ⟨x, hx, e.symm⟩)
  have hin : ∀ x ∈ mid, x ∈ (gbodyF m deep).2.items := fun x hx => by rw [heq]; exact List.mem_cons_of_mem _ hx
  refine ⟨mid, ⟨heq, rfl, fun x hx => ?_, ?_, ?_, hids, hE.gm.ends, hE.gm.self, hE.gm.pair, ?_⟩, hE.gm⟩
  · obtain ⟨p1, p2, p3, p4, p5⟩ := hE.new x (hin x hx) (hnew x hx)
    refine ⟨p1, p2, fun h => p4 (fun he => h (e1 _ he)), fun h k3 => ?_, p5⟩
    rcases e2 x (hin x hx) h with he | he
    · exact p3 (show E x.id by rw [h]; exact he) k3
    · exact absurd k3 he
  · have h := hE.inn _ hB
    rw [hss] at h
    exact h
  · have h := hE.out _ hB
    rw [hss, if_pos rfl] at h
    exact h
  · obtain ⟨x, hx, e⟩ := p.has
    change x ∈ (gbodyF m deep).2.items at hx
    rw [heq] at hx
    rcases List.mem_cons.1 hx with rfl | hx
    · exact absurd ⟨_, by rw [hst]; exact List.mem_singleton.2 rfl, e⟩ p.new
    · exact ⟨x, hx, e⟩
/-- The body with what is behind it. -/
theorem fin_level {d : DocD} {c : ChorD} {l : List ItemD} {s : List SeqD} {x0 : ItemD} {mid : List ItemD} {t : ByteArray} (hb : BodyOk l s x0 mid t) (X : List ItemD) (Y : List SeqD) (b : Bool) (hX : ((l ++ X).map (·.id)).Nodup)
    (hY : ∀ q ∈ Y, q.src ≠ q.dst ∧ (q.src = t ∨ ∃ x ∈ X, x.id = q.src) ∧ ∃ x ∈ X, x.id = q.dst) (hYd : (Y.map (·.dst)).Nodup) (hYt : outN Y t = 1)
    (hX1 : ∀ x ∈ X, ((x.kind = 2 ∧ outN Y x.id = 0) ∨ ((x.kind = 7 ∨ x.kind = 8) ∧ outN Y x.id = 1)) ∧ inN Y x.id = 1 ∧ Path Y t x.id) (hX2 : kindN X 2 = 1) (hgood : ∀ x ∈ l ++ X, GoodI d c x) :
    kindN (l ++ X) 1 = 1 ∧ kindN (l ++ X) 2 = 1 ∧ (∀ q ∈ s ++ Y, q.src ≠ q.dst) ∧ ((s ++ Y).map fun q => (q.src, q.dst)).Nodup ∧ (∀ x ∈ l ++ X, degF (s ++ Y) x.kind x.id = 0) ∧ allReach (l ++ X) (s ++ Y) ∧ levelF d c (l ++ X) (s ++ Y) b = (0, ⟨#[]⟩) := by
  have hdis : ∀ x ∈ l, ∀ y ∈ X, x.id ≠ y.id := fun x hx y hy e => by
    rw [List.map_append] at hX
    exact (List.nodup_append.1 hX).2.2 x.id (List.mem_map.2 ⟨x, hx, rfl⟩) y.id (List.mem_map.2 ⟨y, hy, rfl⟩) e
  obtain ⟨xt, hxt, et⟩ := hb.ht
  have hxtl : xt ∈ l := by rw [hb.eq]; exact List.mem_cons_of_mem _ hxt
  have inOld : ∀ x ∈ l, inN Y x.id = 0 := fun x hx => inN_zero (fun q hq e => by
    obtain ⟨_, _, y, hy, e2⟩ := hY q hq
    exact hdis x hx y hy (e.symm.trans e2.symm))
  have outOld : ∀ x ∈ l, x.id ≠ t → outN Y x.id = 0 := fun x hx hne => outN_zero (fun q hq e => by
    obtain ⟨_, h, _⟩ := hY q hq
    rcases h with h | ⟨y, hy, e2⟩
    · exact hne (e.symm.trans h)
    · exact hdis x hx y hy (e.symm.trans e2.symm))
  have inX : ∀ x ∈ X, inN s x.id = 0 := fun x hx => inN_zero (fun q hq e => by
    obtain ⟨_, y, hy, e2⟩ := hb.ends q hq
    exact hdis y hy x hx (e2.trans e))
  have outX : ∀ x ∈ X, outN s x.id = 0 := fun x hx => outN_zero (fun q hq e => by
    obtain ⟨⟨y, hy, e2⟩, _⟩ := hb.ends q hq
    exact hdis y hy x hx (e2.trans e))
  have subs : ∀ q ∈ s, q ∈ s ++ Y := fun q hq => List.mem_append_left _ hq
  have kmid : ∀ (k : Int), k = 1 ∨ k = 2 → kindN mid k = 0 := fun k hk => by
    rw [kindN_eq, List.length_eq_zero_iff, List.filter_eq_nil_iff]
    intro x hx e
    have := (hb.mids x hx).1
    rw [beq_iff_eq] at e
    omega
  have k1 : kindN (l ++ X) 1 = 1 := by
    have hm := kmid 1 (.inl rfl)
    have hx : kindN X 1 = 0 := by
      rw [kindN_eq, List.length_eq_zero_iff, List.filter_eq_nil_iff]
      intro x hx e
      have := (hX1 x hx).1
      rw [beq_iff_eq] at e
      omega
    rw [kindN_eq] at hm hx ⊢
    rw [hb.eq, List.cons_append, List.filter_cons, if_pos (by rw [hb.k0]; rfl), List.filter_append, List.length_cons, List.length_append]
    omega
  have k2 : kindN (l ++ X) 2 = 1 := by
    have hm := kmid 2 (.inr rfl)
    rw [kindN_eq] at hm hX2 ⊢
    rw [hb.eq, List.cons_append, List.filter_cons, if_neg (by rw [hb.k0]; decide), List.filter_append, List.length_append]
    omega
  have hself : ∀ q ∈ s ++ Y, q.src ≠ q.dst := fun q hq => by
    rcases List.mem_append.1 hq with hq | hq
    · exact hb.self q hq
    · exact (hY q hq).1
  have hpair : ((s ++ Y).map fun q => (q.src, q.dst)).Nodup := by
    rw [List.map_append]
    refine List.nodup_append.2 ⟨hb.pair, ?_, fun a ha r hr e => ?_⟩
    · have := List.pairwise_map.1 hYd
      exact List.pairwise_map.2 (this.imp (fun h e => h (by injection e)))
    · obtain ⟨q, hq, e1⟩ := List.mem_map.1 ha
      obtain ⟨z, hz, e2⟩ := List.mem_map.1 hr
      rw [← e1, ← e2] at e
      injection e with _ e3
      obtain ⟨_, y, hy, e4⟩ := hb.ends q hq
      obtain ⟨_, _, v, hv, e5⟩ := hY z hz
      exact hdis y hy v hv (e4.trans (e3.trans e5.symm))
  have hdeg : ∀ x ∈ l ++ X, degF (s ++ Y) x.kind x.id = 0 := fun x hx => by
    refine deg_ok ?_
    rw [inN_app, outN_app]
    rcases List.mem_append.1 hx with hx | hx
    · have hi := inOld x hx
      have hx' := hx
      rw [hb.eq] at hx'
      rcases List.mem_cons.1 hx' with rfl | hxm
      · have hne : x.id ≠ t := fun e => by
          have : xt = x := nodup_same hb.ids hxtl hx (et.trans e.symm)
          have h3 := (hb.mids xt hxt).1
          rw [this, hb.k0] at h3
          omega
        have ho := outOld x hx hne
        have := hb.in0
        have := hb.out0
        exact .inl ⟨hb.k0, by omega, by omega⟩
      · obtain ⟨p1, p2, p3, p4, _⟩ := hb.mids x hxm
        by_cases hne : x.id = t
        · have ho : outN Y x.id = 1 := by rw [hne]; exact hYt
          by_cases k3 : x.kind = 3
          · have := p4 hne k3
            exact .inr (.inr (.inl ⟨.inl k3, by omega, by omega⟩))
          · exact .inr (.inr (.inr ⟨by omega, by omega, by omega⟩))
        · have ho := outOld x hx hne
          obtain ⟨q1, q2⟩ := p3 hne
          by_cases k3 : x.kind = 3
          · have := q1 k3
            exact .inr (.inr (.inl ⟨.inl k3, by omega, by omega⟩))
          · have := q2 k3
            exact .inr (.inr (.inr ⟨by omega, by omega, by omega⟩))
    · obtain ⟨h1, h2, _⟩ := hX1 x hx
      have hi := inX x hx
      have ho := outX x hx
      rcases h1 with ⟨h1, h3⟩ | ⟨h1, h3⟩
      · exact .inr (.inl ⟨h1, by omega, by omega⟩)
      · exact .inr (.inr (.inl ⟨.inr h1, by omega, by omega⟩))
  have hx0l : x0 ∈ l := by rw [hb.eq]; exact List.mem_cons_self ..
  have pt : Path (s ++ Y) x0.id t := by
    have := (hb.mids xt hxt).2.2.2.2
    rw [et] at this
    exact this.mono subs
  have hreach : allReach (l ++ X) (s ++ Y) := fun i hi => by
    refine reach_path hX (List.mem_append_left _ hx0l) hb.k0 (fun q hq => ?_) (b := (l ++ X)[i].id) ?_ i hi rfl
    · rcases List.mem_append.1 hq with hq | hq
      · obtain ⟨⟨x, hx, e⟩, _⟩ := hb.ends q hq
        exact ⟨x, List.mem_append_left _ hx, e⟩
      · obtain ⟨_, h, _⟩ := hY q hq
        rcases h with h | ⟨x, hx, e⟩
        · exact ⟨xt, List.mem_append_left _ hxtl, et.trans h.symm⟩
        · exact ⟨x, List.mem_append_right _ hx, e⟩
    · have hm : (l ++ X)[i] ∈ l ++ X := List.getElem_mem hi
      generalize (l ++ X)[i] = x at hm
      rcases List.mem_append.1 hm with hx | hx
      · have hx' := hx
        rw [hb.eq] at hx'
        rcases List.mem_cons.1 hx' with rfl | hxm
        · exact .refl
        · exact ((hb.mids x hxm).2.2.2.2).mono subs
      · exact pt.trans ((hX1 x hx).2.2.mono (fun q hq => List.mem_append_right _ hq))
  exact ⟨k1, k2, hself, hpair, hdeg, hreach, level_ok b k1 k2 hself hpair hdeg hgood hreach⟩
/-- A task's shape. -/
def FlowHas (fs : List FlowD) (f a b : ByteArray) : Prop := ∃ y ∈ fs, y.id = f ∧ y.src = a ∧ y.dst = b
structure TaskS (fs : List FlowD) (x : ItemD) (a b f : ByteArray) : Prop where
  first : x.first = a
  parts : x.parts = [a, b]
  ne : a ≠ b
  has : FlowHas fs f a b
  flows : x.flows = [f] ∨ ∃ g, x.flows = [f, g] ∧ FlowHas fs g b a
theorem flow_ok {c : ChorD} (hn : (c.flows.map (·.id)).Nodup) {f a b : ByteArray} (h : FlowHas c.flows f a b) : 0 ≤ flowAt c f ∧ (flowK c (flowAt c f)).src = a ∧ (flowK c (flowAt c f)).dst = b := by
  obtain ⟨y, hy, e1, e2, e3⟩ := h
  obtain ⟨j, hj, e4⟩ := List.getElem_of_mem hy
  have hf : flowAt c f = (j : Int) := by
    have := find_at (fun x : FlowD => x.id) 0 hj hn
    rw [Nat.zero_add, e4, e1] at this
    exact this
  have hk : flowK c (flowAt c f) = y := by
    rw [hf]
    unfold flowK
    rw [Int.toNat_natCast, List.getD_eq_getElem?_getD, List.getElem?_eq_getElem hj, Option.getD_some, e4]
  rw [hk, hf]
  exact ⟨by omega, e2, e3⟩
theorem taskS_ok {c : ChorD} (hn : (c.flows.map (·.id)).Nodup) {x : ItemD} {a b f : ByteArray} (h : TaskS c.flows x a b f) : taskF c x = true := by
  have p0 : part0 x = a := by unfold part0; rw [h.parts]; rfl
  have p1 : part1 x = b := by unfold part1; rw [h.parts]; rfl
  have ot : otherF x = b := by unfold otherF; rw [p0, p1, h.first, if_pos ((eqS_iff _ _).2 rfl)]
  obtain ⟨f1, f2, f3⟩ := flow_ok hn h.has
  unfold taskF
  rw [if_neg (by rw [h.parts]; exact fun e => e rfl), p0, p1, if_neg (by rw [eqS_ne h.ne]; decide), if_neg (by rw [h.parts, h.first, List.any_cons, (eqS_iff a a).2 rfl, Bool.true_or]; decide), ot, h.first]
  have h0 : flOk c a b 1 [] = true := rfl
  rcases h.flows with e | ⟨g, e, hg⟩
  · rw [e, if_neg (by simp), if_neg (by simp), flOk, f2, f3, h0, if_neg (by decide), if_neg (by decide), (eqS_iff a a).2 rfl, (eqS_iff b b).2 rfl]
    simpa using f1
  · obtain ⟨g1, g2, g3⟩ := flow_ok hn hg
    rw [e, if_neg (by simp), if_neg (by simp), flOk, flOk, flOk, f2, f3, g2, g3, if_neg (by decide), if_neg (by decide), if_pos rfl, if_pos rfl, (eqS_iff a a).2 rfl, (eqS_iff b b).2 rfl]
    simp
    exact ⟨f1, g1⟩
structure TaskM (m : MkD) : Prop where
  two : 2 ≤ m.parts.length
  pids : (m.parts.map (·.id)).Nodup
  tasks : ∀ x ∈ m.items, x.kind = 3 → ∃ a b f, TaskS m.flows x a b f
theorem FlowHas.more {fs fs' : List FlowD} {f a b : ByteArray} (h : FlowHas fs f a b) (hs : ∀ y ∈ fs, y ∈ fs') : FlowHas fs' f a b := by
  obtain ⟨y, hy, e⟩ := h
  exact ⟨y, hs y hy, e⟩
theorem TaskS.more {fs fs' : List FlowD} {x : ItemD} {a b f : ByteArray} (h : TaskS fs x a b f) (hs : ∀ y ∈ fs, y ∈ fs') : TaskS fs' x a b f :=
  ⟨h.first, h.parts, h.ne, h.has.more hs, by
    rcases h.flows with e | ⟨g, e, hg⟩
    · exact .inl e
    · exact .inr ⟨g, e, hg.more hs⟩⟩
theorem gAB_ne (m : MkD) (x : Nat) (h : 2 ≤ m.parts.length) : gA m x ≠ gB m x ∧ gA m x < m.parts.length ∧ gB m x < m.parts.length := by
  have ha : gA m x < m.parts.length := Nat.mod_lt _ (by omega)
  have hb : gB m x < m.parts.length := Nat.mod_lt _ (by omega)
  refine ⟨fun e => ?_, ha, hb⟩
  have hk : x / 16 % 16 % (m.parts.length - 1) < m.parts.length - 1 := Nat.mod_lt _ (by omega)
  unfold gB at e
  generalize gA m x = a at *
  generalize x / 16 % 16 % (m.parts.length - 1) = k at *
  generalize m.parts.length = n at *
  by_cases hlt : a + 1 + k < n
  · rw [Nat.mod_eq_of_lt hlt] at e; omega
  · rw [Nat.mod_eq_sub_mod (by omega), Nat.mod_eq_of_lt (by omega)] at e; omega
theorem gpart_ne {m : MkD} (hn : (m.parts.map (·.id)).Nodup) {i j : Nat} (hi : i < m.parts.length) (hj : j < m.parts.length) (h : i ≠ j) : gpart m i ≠ gpart m j := by
  unfold gpart
  rw [List.getD_eq_getElem?_getD, List.getD_eq_getElem?_getD, List.getElem?_eq_getElem hi, List.getElem?_eq_getElem hj]
  intro e
  have h1 := find_at (fun x : PartD => x.id) 0 hi hn
  have h2 := find_at (fun x : PartD => x.id) 0 hj hn
  have e2 : m.parts[i].id = m.parts[j].id := e
  simp only [e2] at h1
  rw [h1] at h2
  omega
theorem taskM_push {m : MkD} (h : TaskM m) {x : ItemD} (hx : x.kind ≠ 3) : TaskM (gitemF (gnamedF m) x) := ⟨h.two, h.pids, fun y hy h3 => by
  have hy' : y ∈ m.items ++ [x] := hy
  rcases List.mem_append.1 hy' with hy' | hy'
  · exact h.tasks y hy' h3
  · rw [List.mem_singleton.1 hy'] at h3; exact absurd h3 hx⟩
theorem taskM_inv : GenInv TaskM where
  next _ h := ⟨h.two, h.pids, h.tasks⟩
  item m k hk h := taskM_push h (fun e => by have : k = 3 := e; omega)
  seq _ _ _ _ _ h := ⟨h.two, h.pids, h.tasks⟩
  task m x h := ⟨h.two, h.pids, fun y hy h3 => by
    have hfl : (gtaskF m x).flows = m.flows ++ gtaskL m x := rfl
    have hy' : y ∈ m.items ++ [gtaskI m x] := hy
    rcases List.mem_append.1 hy' with hy' | hy'
    · obtain ⟨a, b, f, ht⟩ := h.tasks y hy' h3
      exact ⟨a, b, f, ht.more (fun z hz => by rw [hfl]; exact List.mem_append_left _ hz)⟩
    · rw [List.mem_singleton.1 hy']
      obtain ⟨n1, n2, n3⟩ := gAB_ne m x h.two
      refine ⟨gpart m (gA m x), gpart m (gB m x), gnameF (gnamedF m) chF, rfl, rfl, gpart_ne h.pids n2 n3 n1, ?_, ?_⟩
      · rw [hfl]
        exact ⟨⟨gnameF (gnamedF m) chF, gpart m (gA m x), gpart m (gB m x), gmsg x⟩, List.mem_append_right _ (by unfold gtaskL; simp), rfl, rfl, rfl⟩
      · rw [hfl]
        unfold gtaskI gtaskL
        cases hb : gback x
        · exact .inl rfl
        · exact .inr ⟨gnameF (gnamedF (gnamedF m)) chF, rfl, ⟨gnameF (gnamedF (gnamedF m)) chF, gpart m (gB m x), gpart m (gA m x), ⟨#[109, 100]⟩⟩, List.mem_append_right _ (by simp), rfl, rfl, rfl⟩⟩
theorem taskM_body {m : MkD} (h : TaskM m) (deep : Nat) : TaskM (gbodyF m deep).2 := (body_ok taskM_inv (m := m) deep (taskM_push h (fun e => absurd (show (1 : Int) = 3 from e) (by decide)))).inv
end Go.Proofs.Ytljmghaplnkohaa
namespace Go.Proofs.Ytljmghaplnkohaa
open Go.RowKit

theorem key_flows {m : MkD} (k : KeyM m) : (m.flows.map (·.id)).Nodup := by
  have h := nodup_of_count (l := m.flows.map fun x => numOf x.id) (fun a => by
    have := (k.key a).1
    unfold kc at this
    omega)
  exact List.pairwise_map.2 ((List.pairwise_map.1 h).imp (fun hne e => hne (by rw [e])))
theorem key_items {m : MkD} (k : KeyM m) : (m.items.map (·.id)).Nodup := by
  have h := nodup_of_count (l := m.items.map fun x => numOf x.id) (fun a => by
    have := (k.key a).1
    unfold kc at this
    omega)
  exact List.pairwise_map.2 ((List.pairwise_map.1 h).imp (fun hne e => hne (by rw [e])))
theorem good_plain {d : DocD} {c : ChorD} {x : ItemD} (hp : PlainI x) (ht : x.kind = 3 → ∃ a b f, TaskS c.flows x a b f) (hn : (c.flows.map (·.id)).Nodup) : GoodI d c x := by
  have hk := hp.kind
  refine ⟨fun e => by omega, fun e => ?_, fun e => by omega, fun e => by omega⟩
  obtain ⟨a, b, f, h⟩ := ht e
  exact taskS_ok hn h
/-- What the last step of a level adds. -/
def lastE (m : MkD) (deep : Nat) : ItemD := gitem0 2 (gnameF (gbodyF m deep).2 chE)
def lastQ (m : MkD) (deep : Nat) : SeqD := ⟨gnameF (gitemF (gnamedF (gbodyF m deep).2) (lastE m deep)) chS, (gbodyF m deep).1, (lastE m deep).id⟩
theorem level_items (m : MkD) (deep : Nat) : (glevelF m deep).items = (gbodyF m deep).2.items ++ [lastE m deep] := by rw [glevel_eq]; rfl
theorem level_seqs (m : MkD) (deep : Nat) : (glevelF m deep).seqs = (gbodyF m deep).2.seqs ++ [lastQ m deep] := by rw [glevel_eq]; rfl
theorem level_n (m : MkD) (deep : Nat) : (glevelF m deep).n = (gbodyF m deep).2.n + 2 := by rw [glevel_eq]; rfl
theorem out_one (q : SeqD) (a : ByteArray) : outN [q] a = if a = q.src then 1 else 0 := by
  have := outN_snoc [] q a
  rw [List.nil_append, outN_zero (s := []) (fun _ h => by cases h), Nat.zero_add] at this
  exact this
theorem in_one (q : SeqD) (a : ByteArray) : inN [q] a = if a = q.dst then 1 else 0 := by
  have := inN_snoc [] q a
  rw [List.nil_append, inN_zero (s := []) (fun _ h => by cases h), Nat.zero_add] at this
  exact this
/-- What a level keeps to. -/
structure LevelW (d : DocD) (c : ChorD) (l : List ItemD) (s : List SeqD) : Prop where
  k1 : kindN l 1 = 1
  k2 : kindN l 2 = 1
  self : ∀ q ∈ s, q.src ≠ q.dst
  pair : (s.map fun q => (q.src, q.dst)).Nodup
  deg : ∀ x ∈ l, degF s x.kind x.id = 0
  good : ∀ x ∈ l, GoodI d c x
  reach : allReach l s
theorem LevelW.ok {d : DocD} {c : ChorD} {l : List ItemD} {s : List SeqD} (h : LevelW d c l s) (b : Bool) : levelF d c l s b = (0, ⟨#[]⟩) := level_ok b h.k1 h.k2 h.self h.pair h.deg h.good h.reach
theorem plain_levelW (m : MkD) (deep : Nat) (hi : m.items = []) (hq : m.seqs = []) (hn : (glevelF m deep).n ≤ 600) {d : DocD} {c : ChorD} (hgood : ∀ x ∈ (glevelF m deep).items, GoodI d c x) : LevelW d c (glevelF m deep).items (glevelF m deep).seqs := by
  rw [level_n] at hn
  obtain ⟨mid, hb, hg⟩ := body_graph m deep hi hq (by omega)
  have hids : (((gbodyF m deep).2.items ++ [lastE m deep]).map (·.id)).Nodup := (hg.push (by omega) (lastE m deep) chE rfl (gitemF (gnamedF (gbodyF m deep).2) (lastE m deep)) rfl rfl (Nat.le_refl _)).ids
  have htI : HasI (gbodyF m deep).2 (gbodyF m deep).1 := by
    obtain ⟨x, hx, e⟩ := hb.ht
    exact ⟨x, by rw [hb.eq]; exact List.mem_cons_of_mem _ hx, e⟩
  have hne : (gbodyF m deep).1 ≠ (lastE m deep).id := fun e => hg.fresh (by omega) chE (by have h := htI; rw [e] at h; exact h)
  rw [level_items, level_seqs]
  rw [level_items] at hgood
  obtain ⟨a1, a2, a3, a4, a5, a6, _⟩ := fin_level (d := d) (c := c) hb [lastE m deep] [lastQ m deep] false hids
    (fun q hq => by rw [List.mem_singleton.1 hq]; exact ⟨hne, .inl rfl, lastE m deep, List.mem_singleton.2 rfl, rfl⟩) (by simp)
    ((out_one _ _).trans (if_pos rfl))
    (fun x hx => by
      rw [List.mem_singleton.1 hx]
      refine ⟨.inl ⟨rfl, (out_one _ _).trans (if_neg (Ne.symm hne))⟩, (in_one _ _).trans (if_pos rfl), ?_⟩
      exact Path.step (lastQ m deep) .refl (List.mem_singleton.2 rfl) rfl)
    (by rw [kindN_eq]; rfl) hgood
  exact ⟨a1, a2, a3, a4, a5, hgood, a6⟩
theorem begin_task (p : List Int) (pre : ByteArray) : TaskM (gbeginF p (2 + pickF p 0 % 16 % 3) pre) := by
  refine ⟨by simp [gbeginF], ?_, fun x hx => by simp [gbeginF] at hx⟩
  rw [gparts_begin]
  have hinj : ∀ i, i < 4 → ∀ j, j < 4 → gpn i = gpn j → i = j := by decide +kernel
  refine List.pairwise_map.2 (List.Pairwise.imp_of_mem (fun {i j} hi hj hlt e => ?_) List.pairwise_lt_range)
  have h1 := List.mem_range.1 hi
  have h2 := List.mem_range.1 hj
  have e2 : gpn i = gpn j := by
    have h3 : (pre ++ gpn i).data.toList = (pre ++ gpn j).data.toList := by rw [e]
    rw [ByteArray.data_append, ByteArray.data_append, Array.toList_append, Array.toList_append] at h3
    have h4 := List.append_cancel_left h3
    have h5 : (gpn i).data = (gpn j).data := Array.toList_inj.1 h4
    exact ByteArray.ext h5
  have := hinj i (by omega) j (by omega) e2
  omega
theorem make_tasks (p : List Int) (pre : ByteArray) : ∀ x ∈ (gmakeF p pre).items, x.kind = 3 → ∃ a b f, TaskS (gmakeF p pre).flows x a b f := by
  intro x hx h3
  have hb := taskM_body (begin_task p pre) 3
  have hi : (gmakeF p pre).items = _ := level_items (gbeginF p (2 + pickF p 0 % 16 % 3) pre) 3
  rw [hi] at hx
  rcases List.mem_append.1 hx with hx | hx
  · exact hb.tasks x hx h3
  · rw [List.mem_singleton.1 hx] at h3; exact absurd (show (2 : Int) = 3 from h3) (by decide)
/-- A choreography of picks keeps to the rules, whatever its name. -/
theorem make_levelW (p : List Int) (pre nm : ByteArray) (hpre : pre.size ≤ 10) (hl : lowB pre) (d : DocD) : LevelW d (gchorF p nm pre) (gmakeF p pre).items (gmakeF p pre).seqs := by
  obtain ⟨k, n, _⟩ := key_make p pre hl
  have pl := plain_chor p pre hpre
  exact plain_levelW (gbeginF p (2 + pickF p 0 % 16 % 3) pre) 3 rfl rfl (by have : (gmakeF p pre).n ≤ 109 := n; exact Nat.le_trans this (by omega)) (fun x hx => good_plain (pl.items x hx) (fun h3 => make_tasks p pre x hx h3) (key_flows k))
theorem doc_ck (p : List Int) (hp : p.length ≤ maxLen) : checkF (gdocF p) = 0 := by
  obtain ⟨c, hD⟩ := doc_i p hp
  have hadd : addsF [] (idsD (gdocF p)) = (0, idsD (gdocF p)) := by
    have := adds_all [] (idsD (gdocF p)) (fun a ha => (hD.names a ha).1) hD.nodup
    exact this
  have rc : RefM (gmakeF p ⟨#[]⟩) := ref_make p _
  have pc : PlainM (gmakeF p ⟨#[]⟩) := plain_chor p ⟨#[]⟩ (by decide)
  have href : refsF (gdocF p) = true := by
    unfold refsF gdocF
    rw [List.all_cons, List.all_nil, Bool.and_true]
    unfold okC
    rw [Bool.and_eq_true, Bool.and_eq_true]
    refine ⟨?_, ?_, ?_⟩
    · rw [flows_of (fun f hf => rc.flows f hf)]; rfl
    · rw [okL_all]
      intro y hy
      exact okI_plain (pc.items y hy) (fun h3 => rc.tasks y hy h3)
    · exact okSeqs_of (fun s hs => rc.seqs s hs)
  unfold checkF
  rw [hadd, href]
  rfl
theorem doc_rules (p : List Int) (hp : p.length ≤ maxLen) : ckF (gdocF p) = (0, ⟨#[]⟩, 0) := by
  have h := (make_levelW p ⟨#[]⟩ ⟨#[99]⟩ (by decide) low_nil (gdocF p)).ok false
  have hch : chorsF (gdocF p) (gdocF p).chors = (0, ⟨#[]⟩) := by
    show chorsF (gdocF p) [gchorF p ⟨#[99]⟩ ⟨#[]⟩] = _
    have hc : chorF (gdocF p) (gchorF p ⟨#[99]⟩ ⟨#[]⟩) = (0, ⟨#[]⟩) := h
    rw [chorsF, hc, if_neg (fun e => e rfl), chorsF]
  unfold ckF
  rw [doc_ck p hp, if_neg (fun e => e rfl), hch, if_neg (fun e => e rfl)]
theorem noTw_ok : ∀ (pre r : List MapD), (pre ++ r).Pairwise (fun o m => mapTw m o = false) → noTw pre r = true
  | _, [], _ => rfl
  | pre, m :: r, h => by
    rw [noTw, noTw_ok (pre ++ [m]) r (by simpa using h), Bool.and_true, Bool.not_eq_true', List.any_eq_false]
    intro o ho
    rw [(List.pairwise_append.1 h).2.2 o ho m (List.mem_cons_self ..)]
    decide
theorem mod_inj {n a b pk len : Nat} (hn : n ≤ len) (ha : a < n) (hb : b < n) (hlt : a < b) : (a + pk) % len ≠ (b + pk) % len := by
  intro e
  have h1 : (a + pk) % len = (a + pk % len) % len := by rw [Nat.add_mod a pk len, Nat.add_mod a (pk % len) len, Nat.mod_mod]
  have h2 : (b + pk) % len = (b + pk % len) % len := by rw [Nat.add_mod b pk len, Nat.add_mod b (pk % len) len, Nat.mod_mod]
  rw [h1, h2] at e
  have hk : pk % len < len := Nat.mod_lt _ (by omega)
  generalize pk % len = k at *
  by_cases c1 : a + k < len
  · rw [Nat.mod_eq_of_lt c1] at e
    by_cases c2 : b + k < len
    · rw [Nat.mod_eq_of_lt c2] at e; omega
    · rw [Nat.mod_eq_sub_mod (by omega), Nat.mod_eq_of_lt (by omega)] at e; omega
  · rw [Nat.mod_eq_sub_mod (by omega), Nat.mod_eq_of_lt (by omega)] at e
    rw [Nat.mod_eq_sub_mod (by omega), Nat.mod_eq_of_lt (by omega)] at e
    omega
theorem out3 (q1 q2 q3 : SeqD) (a : ByteArray) : outN [q1, q2, q3] a = (if a = q1.src then 1 else 0) + ((if a = q2.src then 1 else 0) + (if a = q3.src then 1 else 0)) := by
  rw [show [q1, q2, q3] = [q1] ++ ([q2] ++ [q3]) from rfl, outN_app, outN_app, out_one, out_one, out_one]
theorem in3 (q1 q2 q3 : SeqD) (a : ByteArray) : inN [q1, q2, q3] a = (if a = q1.dst then 1 else 0) + ((if a = q2.dst then 1 else 0) + (if a = q3.dst then 1 else 0)) := by
  rw [show [q1, q2, q3] = [q1] ++ ([q2] ++ [q3]) from rfl, inN_app, inN_app, in_one, in_one, in_one]
end Go.Proofs.Ytljmghaplnkohaa
