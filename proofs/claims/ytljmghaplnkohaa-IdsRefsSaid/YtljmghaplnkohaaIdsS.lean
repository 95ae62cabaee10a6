/- Plain law: all that a generated document tells of is there. -/
import Derived.Test.YtljmghaplnkohaaIdsG
import Derived.Test.YtljmghaplnkohaaIdsR
namespace Go.Proofs.Ytljmghaplnkohaa
open Go.RowKit

theorem eqS_iff (a b : ByteArray) : eqS a b = true ↔ a = b := by
  unfold eqS
  rw [beq_iff_eq]
  constructor
  · intro h
    have h1 : a.data.toList = b.data.toList := by rw [Lib.toList_data, Lib.toList_data] at h; exact h
    have h2 : a.data = b.data := Array.toList_inj.1 h1
    obtain ⟨x⟩ := a
    obtain ⟨y⟩ := b
    simp only at h2
    rw [h2]
  · intro h; rw [h]
theorem find_geI {α : Type} {p : α → Bool} : ∀ {l : List α} (k : Nat), (∃ x ∈ l, p x = true) → (k : Int) ≤ findFrom p l k
  | [], _, h => by obtain ⟨x, hx, _⟩ := h; cases hx
  | y :: l, k, h => by
    unfold findFrom
    by_cases hy : p y = true
    · rw [if_pos hy]; omega
    · rw [if_neg hy]
      obtain ⟨x, hx, hp⟩ := h
      rcases List.mem_cons.1 hx with rfl | hx
      · exact absurd hp hy
      · have := find_geI (k + 1) ⟨x, hx, hp⟩
        omega
theorem find_noneI {α : Type} {p : α → Bool} : ∀ {l : List α} (k : Nat), (∀ x ∈ l, p x = false) → findFrom p l k = -1
  | [], _, _ => rfl
  | y :: l, k, h => by
    unfold findFrom
    rw [if_neg (by rw [h y (List.mem_cons_self ..)]; simp)]
    exact find_noneI (k + 1) (fun x hx => h x (List.mem_cons_of_mem _ hx))
/-- By ids that are no two the same each is found at its place. -/
theorem find_at {α : Type} (f : α → ByteArray) : ∀ {l : List α} {i : Nat} (k : Nat) (hi : i < l.length), (l.map f).Nodup → findFrom (fun x => eqS (f x) (f l[i])) l k = ((k + i : Nat) : Int)
  | x :: l, 0, k, _, _ => by
    unfold findFrom
    rw [List.getElem_cons_zero, if_pos ((eqS_iff _ _).2 rfl)]
    rfl
  | x :: l, i + 1, k, hi, hd => by
    have hd' := List.nodup_cons.1 (by simpa using hd : (f x :: l.map f).Nodup)
    unfold findFrom
    rw [if_neg, List.getElem_cons_succ]
    · rw [find_at f (k + 1) (by simpa using hi) hd'.2]
      congr 1
      omega
    · intro h
      have he := (eqS_iff _ _).1 h
      rw [List.getElem_cons_succ] at he
      exact hd'.1 (by rw [he]; exact List.mem_map.2 ⟨_, List.getElem_mem _, rfl⟩)
theorem partAt_ge {c : ChorD} {p : ByteArray} (h : ∃ x ∈ c.parts, x.id = p) : 0 ≤ partAt c p := by
  obtain ⟨x, hx, he⟩ := h
  have := find_geI (p := fun x : PartD => eqS x.id p) 0 ⟨x, hx, (eqS_iff _ _).2 he⟩
  unfold partAt
  omega
theorem flowAt_ge {c : ChorD} {p : ByteArray} (h : ∃ x ∈ c.flows, x.id = p) : 0 ≤ flowAt c p := by
  obtain ⟨x, hx, he⟩ := h
  have := find_geI (p := fun x : FlowD => eqS x.id p) 0 ⟨x, hx, (eqS_iff _ _).2 he⟩
  unfold flowAt
  omega
theorem msgAt_ge {d : DocD} {p : ByteArray} (h : ∃ x ∈ d.msgs, x.id = p) : 0 ≤ msgAt d p := by
  obtain ⟨x, hx, he⟩ := h
  have := find_geI (p := fun x : PartD => eqS x.id p) 0 ⟨x, hx, (eqS_iff _ _).2 he⟩
  unfold msgAt
  omega
theorem itemAt_ge {l : List ItemD} {p : ByteArray} (h : ∃ x ∈ l, x.id = p) : 0 ≤ itemAt l p := by
  obtain ⟨x, hx, he⟩ := h
  have := find_geI (p := fun x : ItemD => eqS x.id p) 0 ⟨x, hx, (eqS_iff _ _).2 he⟩
  unfold itemAt
  omega
/-- What a task tells of is there. -/
structure TaskR (ps : List PartD) (fs : List FlowD) (x : ItemD) : Prop where
  first : ∃ y ∈ ps, y.id = x.first
  parts : ∀ p ∈ x.parts, ∃ y ∈ ps, y.id = p
  flows : ∀ f ∈ x.flows, ∃ y ∈ fs, y.id = f
theorem TaskR.mono {ps ps' : List PartD} {fs fs' : List FlowD} {x : ItemD} (h : TaskR ps fs x) (h1 : ∀ y ∈ ps, y ∈ ps') (h2 : ∀ y ∈ fs, y ∈ fs') : TaskR ps' fs' x := by
  refine ⟨?_, fun p hp => ?_, fun f hf => ?_⟩
  · obtain ⟨y, hy, e⟩ := h.first; exact ⟨y, h1 y hy, e⟩
  · obtain ⟨y, hy, e⟩ := h.parts p hp; exact ⟨y, h1 y hy, e⟩
  · obtain ⟨y, hy, e⟩ := h.flows f hf; exact ⟨y, h2 y hy, e⟩
structure RefM (m : MkD) : Prop where
  two : 2 ≤ m.parts.length
  flows : ∀ f ∈ m.flows, (∃ x ∈ m.parts, x.id = f.src) ∧ (∃ x ∈ m.parts, x.id = f.dst) ∧ ∃ x ∈ gmsgsF, x.id = f.msg
  tasks : ∀ x ∈ m.items, x.kind = 3 → TaskR m.parts m.flows x
  seqs : ∀ s ∈ m.seqs, HasI m s.src ∧ HasI m s.dst
theorem gpart_mem {m : MkD} {a : Nat} (h : a < m.parts.length) : ∃ x ∈ m.parts, x.id = gpart m a := by
  unfold gpart
  rw [List.getD_eq_getElem?_getD, List.getElem?_eq_getElem h]
  exact ⟨_, List.getElem_mem h, rfl⟩
theorem gmsg_mem (x : Nat) : ∃ y ∈ gmsgsF, y.id = gmsg x := by
  have h : x / 256 % 16 % 3 < 3 := Nat.mod_lt _ (by omega)
  unfold gmsg
  obtain ⟨k, hk⟩ : ∃ k, k = x / 256 % 16 % 3 := ⟨_, rfl⟩
  rw [← hk] at h ⊢
  have : k = 0 ∨ k = 1 ∨ k = 2 := by omega
  rcases this with rfl | rfl | rfl
  · exact ⟨⟨⟨#[109, 97]⟩, ⟨#[111, 110, 101]⟩⟩, by unfold gmsgsF; simp, rfl⟩
  · exact ⟨⟨⟨#[109, 98]⟩, ⟨#[]⟩⟩, by unfold gmsgsF; simp, rfl⟩
  · exact ⟨⟨⟨#[109, 99]⟩, ⟨#[97, 32, 38, 32, 98]⟩⟩, by unfold gmsgsF; simp, rfl⟩
theorem ref_push {m : MkD} (h : RefM m) (k : Int) (hk : k ≠ 3) (id : ByteArray) : RefM (gitemF (gnamedF m) (gitem0 k id)) := by
  refine ⟨h.two, h.flows, fun x hx h3 => ?_, fun q hq => ⟨(h.seqs q hq).1.more (more_item _ _), (h.seqs q hq).2.more (more_item _ _)⟩⟩
  have hx' : x ∈ m.items ++ [gitem0 k id] := hx
  rcases List.mem_append.1 hx' with hx' | hx'
  · exact h.tasks x hx' h3
  · rw [List.mem_singleton.1 hx'] at h3; exact absurd h3 hk
theorem ref_seq {m : MkD} (h : RefM m) {a b : ByteArray} (ha : HasI m a) (hb : HasI m b) : RefM (gseqF m a b) := by
  refine ⟨h.two, h.flows, h.tasks, fun q hq => ?_⟩
  have hq' : q ∈ m.seqs ++ [⟨gnameF m chS, a, b⟩] := hq
  rcases List.mem_append.1 hq' with hq' | hq'
  · exact ⟨(h.seqs q hq').1.more (more_seq _ _ _), (h.seqs q hq').2.more (more_seq _ _ _)⟩
  · rw [List.mem_singleton.1 hq']
    exact ⟨ha.more (more_seq _ _ _), hb.more (more_seq _ _ _)⟩
theorem ref_inv : GenInv RefM where
  next m h := ⟨h.two, h.flows, h.tasks, h.seqs⟩
  item m k hk h := ref_push h k (by omega) _
  seq m a b ha hb h := ref_seq h ha hb
  task m x h := by
    have hA := gpart_mem (m := m) (a := gA m x) (Nat.mod_lt _ (by have := h.two; omega))
    have hB := gpart_mem (m := m) (a := gB m x) (Nat.mod_lt _ (by have := h.two; omega))
    refine ⟨h.two, fun f hf => ?_, fun y hy h3 => ?_, fun q hq => ⟨(h.seqs q hq).1.more (more_task _ _), (h.seqs q hq).2.more (more_task _ _)⟩⟩
    · have hf' : f ∈ m.flows ++ gtaskL m x := hf
      rcases List.mem_append.1 hf' with hf' | hf'
      · exact h.flows f hf'
      · unfold gtaskL at hf'
        cases hb : gback x <;> rw [hb] at hf' <;> simp at hf'
        · rw [hf']; exact ⟨hA, hB, gmsg_mem x⟩
        · rcases hf' with hf' | hf' <;> rw [hf']
          · exact ⟨hA, hB, gmsg_mem x⟩
          · exact ⟨hB, hA, ⟨⟨⟨#[109, 100]⟩, ⟨#[]⟩⟩, by unfold gmsgsF; simp, rfl⟩⟩
    · have hy' : y ∈ m.items ++ [gtaskI m x] := hy
      have hfl : (gtaskF m x).flows = m.flows ++ gtaskL m x := rfl
      rcases List.mem_append.1 hy' with hy' | hy'
      · exact (h.tasks y hy' h3).mono (fun _ h => h) (fun z hz => by rw [hfl]; exact List.mem_append_left _ hz)
      · rw [List.mem_singleton.1 hy']
        refine ⟨hA, fun p hp => ?_, fun id hid => ?_⟩
        · have hp' : p ∈ [gpart m (gA m x), gpart m (gB m x)] := hp
          simp only [List.mem_cons, List.not_mem_nil, or_false] at hp'
          rcases hp' with rfl | rfl
          · exact hA
          · exact hB
        · rw [hfl]
          unfold gtaskI at hid
          unfold gtaskL
          cases hb : gback x <;> rw [hb] at hid <;> simp at hid
          · exact ⟨_, List.mem_append_right _ (List.mem_cons_self ..), hid.symm⟩
          · rcases hid with hid | hid
            · exact ⟨_, List.mem_append_right _ (List.mem_cons_self ..), hid.symm⟩
            · exact ⟨⟨gnameF (gnamedF (gnamedF m)) chF, gpart m (gB m x), gpart m (gA m x), ⟨#[109, 100]⟩⟩, List.mem_append_right _ (by simp), hid.symm⟩
theorem ref_level {m : MkD} (h : RefM m) (deep : Nat) : RefM (glevelF m deep) := by
  have b := body_ok ref_inv (m := m) deep (ref_push h 1 (by decide) _)
  rw [glevel_eq]
  exact ref_seq (ref_push b.inv 2 (by decide) _) (b.has.more (more_item _ _)) (has_item _ _)
theorem ref_make (p : List Int) (pre : ByteArray) : RefM (gmakeF p pre) :=
  ref_level ⟨by simp [gbeginF], fun f hf => by simp [gbeginF] at hf, fun f hf => by simp [gbeginF] at hf, fun f hf => by simp [gbeginF] at hf⟩ 3
theorem ref_in (q : List Int) (parts : List PartD) (h : 2 ≤ parts.length) : RefM (ginF q parts) :=
  ref_level ⟨h, fun f hf => by simp at hf, fun f hf => by simp at hf, fun f hf => by simp at hf⟩ 1
theorem ginF_parts (q : List Int) (parts : List PartD) : (ginF q parts).parts = parts := (grow_levelI ⟨q, 5, 0, parts, [], [], [], ⟨#[121]⟩⟩ 1).parts
theorem okL_all (d : DocD) (c : ChorD) : ∀ {l : List ItemD}, okL d c l = true ↔ ∀ x ∈ l, okI d c x = true
  | [] => by unfold okL; simp
  | x :: l => by
    unfold okL
    rw [Bool.and_eq_true, okL_all d c]
    simp
theorem okTask_of {c : ChorD} {x : ItemD} (h : TaskR c.parts c.flows x) : okTask c x.first x.parts x.flows = true := by
  unfold okTask
  rw [Bool.and_eq_true, Bool.and_eq_true, decide_eq_true_eq, Bool.not_eq_true', Bool.not_eq_true', List.any_eq_false, List.any_eq_false]
  refine ⟨⟨partAt_ge h.first, fun p hp => ?_⟩, fun f hf => ?_⟩
  · have := partAt_ge (h.parts p hp); simp; omega
  · have := flowAt_ge (h.flows f hf); simp; omega
theorem okI_plain {d : DocD} {c : ChorD} {x : ItemD} (hp : PlainI x) (h : x.kind = 3 → TaskR c.parts c.flows x) : okI d c x = true := by
  rw [okI_eq]
  have hk := hp.kind
  by_cases h3 : x.kind = 3
  · rw [if_pos h3]; exact okTask_of (h h3)
  · rw [if_neg h3, if_neg (by omega), if_neg (by omega)]
theorem okSeqs_of {l : List ItemD} {s : List SeqD} (h : ∀ q ∈ s, (∃ x ∈ l, x.id = q.src) ∧ ∃ x ∈ l, x.id = q.dst) : okSeqs l s = true := by
  unfold okSeqs
  rw [Bool.not_eq_true', List.any_eq_false]
  intro q hq
  obtain ⟨h1, h2⟩ := h q hq
  have a := itemAt_ge h1
  have b := itemAt_ge h2
  unfold badSeq
  simp
  omega
theorem flows_of {d : DocD} {c : ChorD} (h : ∀ f ∈ c.flows, (∃ x ∈ c.parts, x.id = f.src) ∧ (∃ x ∈ c.parts, x.id = f.dst) ∧ ∃ x ∈ d.msgs, x.id = f.msg) : c.flows.any (badFlow d c) = false := by
  rw [List.any_eq_false]
  intro f hf
  obtain ⟨h1, h2, h3⟩ := h f hf
  have a := partAt_ge h1
  have b := partAt_ge h2
  have e := msgAt_ge h3
  unfold badFlow
  simp
  omega
end Go.Proofs.Ytljmghaplnkohaa
