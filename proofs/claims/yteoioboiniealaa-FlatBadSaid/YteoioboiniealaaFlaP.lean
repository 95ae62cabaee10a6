/- Plain law of flat: choreographies without any within: whether a graph comes of them. -/
import Derived.Test.YteoioboiniealaaFlaD
namespace Go.Proofs.Yteoioboiniealaa
open Go.RowKit

theorem msg_e (s : FS) (id : ByteArray) : (msgF s id).2.e = s.e := by unfold msgF; split <;> rfl
theorem msg_nodes (s : FS) (id : ByteArray) : (msgF s id).2.nodes = s.nodes := by unfold msgF; split <;> rfl
theorem msg_edges (s : FS) (id : ByteArray) : (msgF s id).2.edges = s.edges := by unfold msgF; split <;> rfl
theorem msg_len (s : FS) (id : ByteArray) : (msgF s id).2.msgs.length ≤ s.msgs.length + 1 := by unfold msgF; split <;> simp
section
variable (ps : List ByteArray) (fl : List FlowD)
theorem taskG_e : ∀ (l : List ByteArray) (k : Nat) (n : NodeD) (s : FS), s.e = 6 → (taskG ps fl l k n s).2.2.e = 6
  | [], _, _, _, h => h
  | f :: l, k, n, s, h => by
    unfold taskG
    split
    · rfl
    · split
      · rfl
      · split
        · exact taskG_e l _ _ _ (by rw [msg_e]; exact h)
        · exact taskG_e l _ _ _ (by rw [msg_e]; exact h)
theorem taskG_true : ∀ (l : List ByteArray) (k : Nat) (n : NodeD) (s : FS), (taskG ps fl l k n s).1 = true → (taskG ps fl l k n s).2.2.e = 6
  | [], _, _, _, h => by unfold taskG at h; cases h
  | f :: l, k, n, s, h => by
    unfold taskG at h ⊢
    split
    · rfl
    · rename_i h1
      rw [if_neg h1] at h
      split
      · rfl
      · rename_i h2
        rw [h2] at h
        dsimp only at h
        split
        · rename_i h3
          rw [if_pos h3] at h
          exact taskG_true l _ _ _ h
        · rename_i h3
          rw [if_neg h3] at h
          exact taskG_true l _ _ _ h
theorem taskG_kept : ∀ (l : List ByteArray) (k : Nat) (n : NodeD) (s : FS), (taskG ps fl l k n s).2.2.nodes = s.nodes ∧ (taskG ps fl l k n s).2.2.edges = s.edges ∧ (taskG ps fl l k n s).2.2.msgs.length ≤ s.msgs.length + l.length
  | [], _, _, _ => ⟨rfl, rfl, Nat.le_refl _⟩
  | f :: l, k, n, s => by
    unfold taskG
    split
    · exact ⟨rfl, rfl, Nat.le_add_right _ _⟩
    · split
      · exact ⟨rfl, rfl, Nat.le_add_right _ _⟩
      · rename_i x _
        have hm := msg_len s x.msg
        split
        · obtain ⟨h1, h2, h3⟩ := taskG_kept l (k + 1) ⟨n.kind, n.id, n.src, n.dst, n.msg, (msgF s x.msg).1, n.loop⟩ (msgF s x.msg).2
          exact ⟨h1.trans (msg_nodes _ _), h2.trans (msg_edges _ _), by rw [List.length_cons]; omega⟩
        · obtain ⟨h1, h2, h3⟩ := taskG_kept l (k + 1) ⟨n.kind, n.id, placeF ps x.src, placeF ps x.dst, (msgF s x.msg).1, n.reply, n.loop⟩ (msgF s x.msg).2
          exact ⟨h1.trans (msg_nodes _ _), h2.trans (msg_edges _ _), by rw [List.length_cons]; omega⟩
theorem taskE_e {r : Bool × NodeD × FS} (h : r.2.2.e = 6) : (taskE r).2.e = 6 := by
  unfold taskE
  split
  · rfl
  · exact h
theorem taskE_nodes (r : Bool × NodeD × FS) : (taskE r).2.nodes = r.2.2.nodes ++ [r.2.1] := by unfold taskE; split <;> rfl
theorem taskE_edges (r : Bool × NodeD × FS) : (taskE r).2.edges = r.2.2.edges := by unfold taskE; split <;> rfl
theorem taskE_msgs (r : Bool × NodeD × FS) : (taskE r).2.msgs = r.2.2.msgs := by unfold taskE; split <;> rfl
theorem taskE_fst (r : Bool × NodeD × FS) : (taskE r).1 = (r.2.2.nodes.length : Int) := by unfold taskE; split <;> rfl
/-- What holds of an item that is none within: something is made of it; what is wrong stays so. -/
structure OneR (i : ItemD) (s : FS) (r : Int × Int) (s' : FS) : Prop where
  e : s.e = 6 → s'.e = 6
  nodes : s'.nodes.length = s.nodes.length + 1
  edges : s'.edges = s.edges
  msgs : s'.msgs.length ≤ s.msgs.length + i.flows.length
  in_ : r.1 = (s.nodes.length : Int)
  out : r.2 = (s.nodes.length : Int)
theorem one_any (rec : List ItemD → List SeqD → FS → Option ((Int × Int) × FS)) (within : Bool) (i : ItemD) (h7 : i.kind ≠ 7) (s : FS) : ∃ r s', fitemG rec ps fl within s i = some (r, s') ∧ OneR i s r s' := by
  unfold fitemG
  by_cases h3 : i.kind = 3
  · rw [if_pos h3]
    refine ⟨_, _, rfl, ?_⟩
    obtain ⟨h1, h2, h4⟩ := taskG_kept ps fl i.flows 0 (taskN i) s
    unfold taskF
    refine ⟨fun he => taskE_e (taskG_e ps fl _ _ _ _ he), ?_, ?_, ?_, ?_, ?_⟩
    · rw [taskE_nodes, List.length_append, h1]; rfl
    · rw [taskE_edges, h2]
    · rw [taskE_msgs]; exact h4
    · show (taskE _).1 = _; rw [taskE_fst, h1]
    · show (taskE _).1 = _; rw [taskE_fst, h1]
  · rw [if_neg h3, if_neg h7]
    split
    · exact ⟨_, _, rfl, fun h => h, by simp [addNode], rfl, by show s.msgs.length ≤ _; omega, rfl, rfl⟩
    · exact ⟨_, _, rfl, fun h => h, by simp [addNode], rfl, by show s.msgs.length ≤ _; omega, rfl, rfl⟩
end
/-- Levels whose items are each made something of, but for ones within that are empty. -/
def OneS (one : FS → ItemD → Option ((Int × Int) × FS)) (i : ItemD) : Prop := ∀ s, ∃ r s', one s i = some (r, s') ∧ (s.e = 6 → s'.e = 6) ∧ s'.nodes.length ≤ s.nodes.length + 1 ∧ s'.edges = s.edges ∧ s'.msgs.length ≤ s.msgs.length + 3
theorem flev1_some {one : FS → ItemD → Option ((Int × Int) × FS)} : ∀ (l : List ItemD) (_ : ∀ i ∈ l, OneS one i) (ats : List (Int × Int)) (out : Int × Int) (s : FS), ∃ ats' out' s', flev1 one l ats out s = some (ats', out', s') ∧
    (s.e = 6 → s'.e = 6) ∧ s'.nodes.length ≤ s.nodes.length + l.length ∧ s'.edges = s.edges ∧ s'.msgs.length ≤ s.msgs.length + 3 * l.length
  | [], _, ats, out, s => ⟨ats, out, s, rfl, fun h => h, by simp, rfl, by simp⟩
  | x :: l, h, ats, out, s => by
    obtain ⟨r, s1, h1, e1, n1, d1, m1⟩ := h x (List.mem_cons_self ..) s
    obtain ⟨ats', out', s', h2, e2, n2, d2, m2⟩ := flev1_some l (fun i hi => h i (List.mem_cons_of_mem _ hi)) (ats ++ [r]) (outF x r out) s1
    refine ⟨ats', out', s', ?_, fun he => e2 (e1 he), by rw [List.length_cons]; omega, d2.trans d1, by rw [List.length_cons]; omega⟩
    unfold flev1
    rw [h1]
    exact h2
/-- One that is bad. -/
theorem flev1_bad {one : FS → ItemD → Option ((Int × Int) × FS)} : ∀ (l : List ItemD) (_ : ∀ i ∈ l, OneS one i) (_ : ∃ i ∈ l, ∀ s r s', one s i = some (r, s') → s'.e = 6) (ats : List (Int × Int)) (out : Int × Int) (s : FS) (ats' : List (Int × Int)) (out' : Int × Int) (s' : FS),
    flev1 one l ats out s = some (ats', out', s') → s'.e = 6
  | [], _, hb, _, _, _, _, _, _, _ => by obtain ⟨i, hi, _⟩ := hb; cases hi
  | x :: l, h, hb, ats, out, s, ats', out', s', hh => by
    obtain ⟨r, s1, h1, e1, _⟩ := h x (List.mem_cons_self ..) s
    have hl := fun i hi => h i (List.mem_cons_of_mem _ hi)
    unfold flev1 at hh
    rw [h1] at hh
    dsimp only at hh
    obtain ⟨i, hi, hbi⟩ := hb
    rcases List.mem_cons.1 hi with rfl | hi
    · have he := hbi _ _ _ h1
      obtain ⟨a2, o2, s2, h2, e2, _⟩ := flev1_some l hl (ats ++ [r]) (outF i r out) s1
      rw [h2] at hh
      injection hh with hh
      injection hh with _ hh
      injection hh with _ hh
      rw [← hh]
      exact e2 he
    · exact flev1_bad l hl ⟨i, hi, hbi⟩ _ _ _ _ _ _ hh
/-- None that is bad. -/
theorem flev1_good {one : FS → ItemD → Option ((Int × Int) × FS)} : ∀ (l : List ItemD) (_ : ∀ i ∈ l, ∀ s r s', one s i = some (r, s') → s'.e = s.e) (ats : List (Int × Int)) (out : Int × Int) (s : FS) (ats' : List (Int × Int)) (out' : Int × Int) (s' : FS),
    flev1 one l ats out s = some (ats', out', s') → s'.e = s.e
  | [], _, _, _, _, _, _, _, hh => by
    unfold flev1 at hh
    injection hh with hh
    injection hh with _ hh
    injection hh with _ hh
    rw [← hh]
  | x :: l, h, ats, out, s, ats', out', s', hh => by
    unfold flev1 at hh
    split at hh
    · cases hh
    · rename_i r s1 h1
      rw [flev1_good l (fun i hi => h i (List.mem_cons_of_mem _ hi)) _ _ _ _ _ _ hh]
      exact h x (List.mem_cons_self ..) _ _ _ h1
/-- The ends of items, one by one. -/
theorem flev1_ats {one : FS → ItemD → Option ((Int × Int) × FS)} {Q : ItemD → Int × Int → Prop} : ∀ (l : List ItemD) (_ : ∀ i ∈ l, ∀ s r s', one s i = some (r, s') → Q i r) (ats : List (Int × Int)) (out : Int × Int) (s : FS) (ats' : List (Int × Int)) (out' : Int × Int) (s' : FS),
    flev1 one l ats out s = some (ats', out', s') → ∃ rs, ats' = ats ++ rs ∧ rs.length = l.length ∧ ∀ (k : Nat) (h : k < l.length) (h' : k < rs.length), Q l[k] rs[k]
  | [], _, ats, _, _, _, _, _, hh => by
    unfold flev1 at hh
    injection hh with hh
    injection hh with hh _
    exact ⟨[], by rw [← hh]; simp, rfl, fun k h => by simp at h⟩
  | x :: l, h, ats, out, s, ats', out', s', hh => by
    unfold flev1 at hh
    split at hh
    · cases hh
    · rename_i r s1 h1
      obtain ⟨rs, h2, h3, h4⟩ := flev1_ats l (fun i hi => h i (List.mem_cons_of_mem _ hi)) _ _ _ _ _ _ hh
      refine ⟨r :: rs, by rw [h2]; simp, by simp [h3], fun k hk hk' => ?_⟩
      cases k with
      | zero => exact h x (List.mem_cons_self ..) _ _ _ h1
      | succ k => exact h4 k (by simpa using hk) (by simpa using hk')
theorem fedge_kept (l : List ItemD) (ats : List (Int × Int)) (q : SeqD) (s : FS) : (s.e = 6 → (fedge l ats q s).e = 6) ∧ (fedge l ats q s).nodes = s.nodes ∧ (fedge l ats q s).msgs = s.msgs ∧ (fedge l ats q s).edges.length ≤ s.edges.length + 1 := by
  unfold fedge
  split
  · exact ⟨fun _ => rfl, rfl, rfl, by show s.edges.length ≤ _; omega⟩
  · exact ⟨fun h => h, rfl, rfl, by simp⟩
theorem flev2_kept (l : List ItemD) (ats : List (Int × Int)) : ∀ (sq : List SeqD) (s : FS), (s.e = 6 → (flev2 l ats sq s).e = 6) ∧ (flev2 l ats sq s).nodes = s.nodes ∧ (flev2 l ats sq s).msgs = s.msgs ∧ (flev2 l ats sq s).edges.length ≤ s.edges.length + sq.length
  | [], s => ⟨fun h => h, rfl, rfl, Nat.le_refl _⟩
  | q :: r, s => by
    obtain ⟨a1, a2, a3, a4⟩ := fedge_kept l ats q s
    obtain ⟨b1, b2, b3, b4⟩ := flev2_kept l ats r (fedge l ats q s)
    unfold flev2
    exact ⟨fun h => b1 (a1 h), b2.trans a2, b3.trans a3, by rw [List.length_cons]; omega⟩
theorem flev2_bad (l : List ItemD) (ats : List (Int × Int)) : ∀ (sq : List SeqD) (s : FS), (∃ q ∈ sq, ∀ s, (fedge l ats q s).e = 6) → (flev2 l ats sq s).e = 6
  | [], _, h => by obtain ⟨q, hq, _⟩ := h; cases hq
  | p :: r, s, h => by
    obtain ⟨q, hq, hb⟩ := h
    unfold flev2
    rcases List.mem_cons.1 hq with rfl | hq
    · exact (flev2_kept l ats r _).1 (hb s)
    · exact flev2_bad l ats r _ ⟨q, hq, hb⟩
theorem flev2_good (l : List ItemD) (ats : List (Int × Int)) : ∀ (sq : List SeqD) (s : FS), (∀ q ∈ sq, ∀ s, (fedge l ats q s).e = s.e) → (flev2 l ats sq s).e = s.e
  | [], _, _ => rfl
  | p :: r, s, h => by
    unfold flev2
    rw [flev2_good l ats r _ (fun q hq => h q (List.mem_cons_of_mem _ hq))]
    exact h p (List.mem_cons_self ..) s
/-- Small enough for the walk. -/
theorem graph_some {f : Nat} {c : ChorD} (hI : ∀ i ∈ c.items, OneS (fitemG (flevF (c.parts.map (·.id)) c.flows f true) (c.parts.map (·.id)) c.flows false) i) (hl : c.items.length ≤ 1000) (hq : c.seqs.length ≤ 1000) :
    ∃ ats out s1, flev1 (fitemG (flevF (c.parts.map (·.id)) c.flows f true) (c.parts.map (·.id)) c.flows false) c.items [] (-1, -1) ⟨[], [], [], 0⟩ = some (ats, out, s1) ∧ graphF (f + 1) c = some (flev2 c.items ats c.seqs s1) ∧ SmallF (flev2 c.items ats c.seqs s1) := by
  obtain ⟨ats, out, s1, h1, _, h3, h4, h5⟩ := flev1_some c.items hI [] (-1, -1) ⟨[], [], [], 0⟩
  refine ⟨ats, out, s1, h1, ?_, ?_⟩
  · unfold graphF flevF
    rw [h1]
  · obtain ⟨_, k2, k3, k4⟩ := flev2_kept c.items ats c.seqs s1
    have h3' : s1.nodes.length ≤ 0 + c.items.length := h3
    have h5' : s1.msgs.length ≤ 0 + 3 * c.items.length := h5
    have h4' : s1.edges.length = 0 := by rw [h4]; rfl
    exact ⟨by rw [k3]; omega, by rw [k2]; omega, by omega⟩
end Go.Proofs.Yteoioboiniealaa
