/- Plain law: all ids of a nested document are names, no two the same. -/
import Derived.Test.YtljmghaplnkohaaIdsP
namespace Go.Proofs.Ytljmghaplnkohaa
open Go.RowKit

/-- A number for each id: of those of one kind by their last two letters. -/
def rank (s : ByteArray) : Nat :=
  numOf s + (if s.size ≤ 2 then 0 else if s.size = 3 then (if s.data.toList.headD 0 = 120 then 20000 else 10000) else if s.data.toList.headD 0 = 121 then 30000 else if s.data.toList.headD 0 = 120 then 40000 else 50000)
theorem nodup_of_count : ∀ {l : List Nat}, (∀ a, l.count a ≤ 1) → l.Nodup
  | [], _ => List.nodup_nil
  | x :: l, h => by
    refine List.nodup_cons.2 ⟨fun hx => ?_, nodup_of_count (fun a => ?_)⟩
    · have h1 := h x
      have h2 := List.count_pos_iff.2 hx
      rw [List.count_cons] at h1
      simp at h1
      omega
    · have h1 := h a
      rw [List.count_cons] at h1
      omega
theorem nodup_of_rank {l : List ByteArray} (h : ∀ a, (l.map rank).count a ≤ 1) : l.Nodup := by
  have h1 := nodup_of_count h
  exact (List.pairwise_map.1 h1).imp (fun hne e => hne (by rw [e]))
theorem count_shift {α : Type} (f : α → ByteArray) (K : Nat) : ∀ {l : List α}, (∀ x ∈ l, rank (f x) = numOf (f x) + K) → ∀ a, ((l.map f).map rank).count a = if K ≤ a then (l.map fun x => numOf (f x)).count (a - K) else 0
  | [], _, a => by simp
  | x :: l, h, a => by
    have ih := count_shift f K (fun y hy => h y (List.mem_cons_of_mem _ hy)) a
    have hx := h x (List.mem_cons_self ..)
    simp only [List.map_cons, List.count_cons] at ih ⊢
    rw [ih, hx]
    obtain ⟨n, hn⟩ : ∃ n, n = numOf (f x) := ⟨_, rfl⟩
    rw [← hn]
    simp only [beq_iff_eq]
    by_cases hK : K ≤ a
    · rw [if_pos hK, if_pos hK]
      by_cases he : n = a - K
      · rw [if_pos (show n + K = a by omega), if_pos he]
      · rw [if_neg (show ¬ n + K = a by omega), if_neg he]
    · rw [if_neg hK, if_neg hK, if_neg (show ¬ n + K = a by omega)]
/-- The ranks of a maker's ids. -/
theorem rank_maker {m : MkD} (k : KeyM m) (K : Nat) (hK : ∀ s : ByteArray, s.size = m.pre.size + 3 → (∃ r, s = m.pre ++ r ∧ r.data.toList.headD 0 ≠ 120) → rank s = numOf s + K) (a : Nat) :
    ((m.items.map (·.id)).map rank).count a + ((m.flows.map (·.id)).map rank).count a + ((m.seqs.map (·.id)).map rank).count a = if K ≤ a then kc m (a - K) else 0 := by
  rw [count_shift (·.id) K (fun x hx => hK _ (k.items x hx).2.1 (k.items x hx).2.2), count_shift (·.id) K (fun x hx => hK _ (k.flows x hx).2.1 (k.flows x hx).2.2), count_shift (·.id) K (fun x hx => hK _ (k.seqs x hx).2.1 (k.seqs x hx).2.2)]
  unfold kc
  split <;> omega
theorem rank_plain (s : ByteArray) (h : s.size = 3) (h2 : ∃ r, s = (⟨#[]⟩ : ByteArray) ++ r ∧ r.data.toList.headD 0 ≠ 120) : rank s = numOf s + 10000 := by
  obtain ⟨r, hr, h3⟩ := h2
  have hr' : s = r := by rw [hr]; exact ByteArray.empty_append
  unfold rank
  rw [h, if_neg (by decide), if_pos rfl, hr', if_neg h3]
theorem rank_pre (c : UInt8) (hc : c = 120 ∨ c = 121) (s : ByteArray) (h : s.size = 4) (h2 : ∃ r, s = (⟨#[c]⟩ : ByteArray) ++ r ∧ r.data.toList.headD 0 ≠ 120) : rank s = numOf s + (if c = 121 then 30000 else 40000) := by
  obtain ⟨r, hr, h3⟩ := h2
  have hh : s.data.toList.headD 0 = c := by rw [hr, ByteArray.data_append, Array.toList_append]; rfl
  unfold rank
  rw [h, if_neg (by decide), if_neg (by decide), hh]
  rcases hc with rfl | rfl
  · rw [if_neg (by decide), if_pos rfl, if_neg (by decide)]
  · rw [if_pos rfl, if_pos rfl]
theorem count_range (f : Nat → ByteArray) (K : Nat) : ∀ (N : Nat), (∀ i, i < N → rank (f i) = K + i) → ∀ a, (((List.range N).map f).map rank).count a ≤ 1 ∧ (0 < (((List.range N).map f).map rank).count a → K ≤ a ∧ a < K + N)
  | 0, _, a => by simp
  | N + 1, h, a => by
    obtain ⟨h1, h2⟩ := count_range f K N (fun i hi => h i (by omega)) a
    rw [List.range_succ, List.map_append, List.map_append]
    simp only [List.map_cons, List.map_nil]
    rw [count_snoc, h N (by omega)]
    split
    · constructor
      · rcases Nat.eq_zero_or_pos ((((List.range N).map f).map rank).count a) with h0 | h0
        · omega
        · have := h2 h0; omega
      · intro _; omega
    · constructor
      · omega
      · intro h3; have := h2 (by omega); omega
theorem rank_gpn : ∀ i, i < 4 → rank (gpn i) = 390 + i := by decide +kernel
theorem rank_xpn : ∀ i, i < 4 → rank ((⟨#[120]⟩ : ByteArray) ++ gpn i) = 20390 + i := by decide +kernel
theorem idsL_plain : ∀ {l : List ItemD}, (∀ x ∈ l, PlainI x) → idsL l = l.map (·.id)
  | [], _ => by rw [idsL]; rfl
  | x :: l, h => by
    have hx := h x (List.mem_cons_self ..)
    rw [idsL, idsI_eq, hx.items, hx.seqs, idsL_plain (fun y hy => h y (List.mem_cons_of_mem _ hy))]
    simp [idsL]
theorem idsL_append (a b : List ItemD) : idsL (a ++ b) = idsL a ++ idsL b := by
  induction a with
  | nil => rw [idsL]; rfl
  | cons x a ih => rw [List.cons_append, idsL, idsL, ih, List.append_assoc]
def sq1S : ByteArray := ⟨#[115, 113, 49]⟩
def sq2S : ByteArray := ⟨#[115, 113, 50]⟩
theorem gseqs_ids (l : List SeqD) (hl : 1 ≤ l.length) : (gseqsF l).map (·.id) = l.map (·.id) ++ [sq1S, sq2S] := by
  have hne : l ≠ [] := fun e => by rw [e] at hl; simp at hl
  unfold gseqsF
  conv => rhs; rw [← List.dropLast_concat_getLast hne]
  rw [List.getLastD_eq_getLast?, List.getLast?_eq_some_getLast hne]
  simp only [List.map_append, List.map_cons, List.map_nil, Option.getD_some, List.append_assoc, List.cons_append, List.nil_append]
  rfl
theorem gparts_begin (p : List Int) (n : Nat) (pre : ByteArray) : (gbeginF p n pre).parts.map (·.id) = (List.range n).map (fun i => pre ++ gpn i) := by
  unfold gbeginF
  simp
theorem gmore_ids (n k : Nat) (l : List PartD) (hl : l.map (·.id) = (List.range k).map gpn) : ∃ N, (gmoreF n l).map (·.id) = (List.range N).map gpn ∧ (N = k ∨ N = n) ∧ k ≤ N := by
  have hk : l.length = k := by
    have := congrArg List.length hl
    simpa using this
  unfold gmoreF
  rw [List.map_append, hl, hk]
  refine ⟨k + (n - k), ?_, by omega, by omega⟩
  rw [List.range_add, List.map_append]
  congr 1
  simp
/-- The ids of a nested document, piece by piece. -/
theorem nested_ids (p q : List Int) (hp : p.length ≤ maxLen) (hq : q.length ≤ maxLen) :
    ∃ parts, (∃ N, N ≤ 4 ∧ parts = (List.range N).map gpn) ∧ (∃ X, X ≤ 4 ∧ idsD (gnestedF p q) =
      [⟨#[109, 97]⟩, ⟨#[109, 98]⟩, ⟨#[109, 99]⟩, ⟨#[109, 100]⟩] ++ ((⟨#[99]⟩ : ByteArray) :: (parts ++ (((gmakeF p ⟨#[]⟩).flows.map (·.id) ++ (ginF q (gmoreF (gchorF q ⟨#[100]⟩ ⟨#[120]⟩).parts.length (gchorF p ⟨#[99]⟩ ⟨#[]⟩).parts)).flows.map (·.id)) ++
        (((gmakeF p ⟨#[]⟩).items.map (·.id) ++ (gcallS :: (gsubS :: ((ginF q (gmoreF (gchorF q ⟨#[100]⟩ ⟨#[120]⟩).parts.length (gchorF p ⟨#[99]⟩ ⟨#[]⟩).parts)).items.map (·.id) ++ (ginF q (gmoreF (gchorF q ⟨#[100]⟩ ⟨#[120]⟩).parts.length (gchorF p ⟨#[99]⟩ ⟨#[]⟩).parts)).seqs.map (·.id))))) ++ ((gmakeF p ⟨#[]⟩).seqs.map (·.id) ++ [sq1S, sq2S])))) ++
        ((⟨#[100]⟩ : ByteArray) :: ((List.range X).map (fun i => (⟨#[120]⟩ : ByteArray) ++ gpn i) ++ ((gmakeF q ⟨#[120]⟩).flows.map (·.id) ++ ((gmakeF q ⟨#[120]⟩).items.map (·.id) ++ (gmakeF q ⟨#[120]⟩).seqs.map (·.id)))))) ∧ X = (gmakeF q ⟨#[120]⟩).parts.length) := by
  obtain ⟨mc, hmc⟩ : ∃ m, m = gmakeF p ⟨#[]⟩ := ⟨_, rfl⟩
  obtain ⟨mx, hmx⟩ : ∃ m, m = gmakeF q ⟨#[120]⟩ := ⟨_, rfl⟩
  have pc : PlainM mc := by rw [hmc]; exact plain_chor p ⟨#[]⟩ (by decide)
  have px : PlainM mx := by rw [hmx]; exact plain_chor q ⟨#[120]⟩ (by decide)
  have hfc := gchor_facts p hp ⟨#[99]⟩ ⟨#[]⟩ (by decide)
  have hfx := gchor_facts q hq ⟨#[100]⟩ ⟨#[120]⟩ (by decide)
  have hcp : mc.parts.map (·.id) = (List.range (2 + pickF p 0 % 16 % 3)).map gpn := by
    have hg := grow_levelI (gbeginF p (2 + pickF p 0 % 16 % 3) ⟨#[]⟩) 3
    have : mc.parts = (gbeginF p (2 + pickF p 0 % 16 % 3) ⟨#[]⟩).parts := by rw [hmc]; exact hg.parts
    rw [this, gparts_begin]
    refine List.map_congr_left (fun i _ => ByteArray.empty_append)
  have hxp : mx.parts.map (·.id) = (List.range (2 + pickF q 0 % 16 % 3)).map (fun i => (⟨#[120]⟩ : ByteArray) ++ gpn i) := by
    have hg := grow_levelI (gbeginF q (2 + pickF q 0 % 16 % 3) ⟨#[120]⟩) 3
    have : mx.parts = (gbeginF q (2 + pickF q 0 % 16 % 3) ⟨#[120]⟩).parts := by rw [hmx]; exact hg.parts
    rw [this, gparts_begin]
  have hxl : mx.parts.length = 2 + pickF q 0 % 16 % 3 := by
    have := congrArg List.length hxp
    simpa using this
  have hc1 : 1 ≤ mc.seqs.length := by rw [hmc]; exact hfc.2.2.2.2.2
  obtain ⟨my, hmy⟩ : ∃ m, m = ginF q (gmoreF (gchorF q ⟨#[100]⟩ ⟨#[120]⟩).parts.length (gchorF p ⟨#[99]⟩ ⟨#[]⟩).parts) := ⟨_, rfl⟩
  have py : PlainM my := by rw [hmy]; exact plain_in q _
  obtain ⟨N, hN, hNk, _⟩ := gmore_ids mx.parts.length _ mc.parts hcp
  rw [← hmy]
  refine ⟨(gmoreF mx.parts.length mc.parts).map (·.id), ⟨N, by omega, hN⟩, 2 + pickF q 0 % 16 % 3, by omega, ?_, by rw [← hmx]; omega⟩
  have hd : gnestedF p q = ⟨gmsgsF, [⟨⟨#[99]⟩, gmoreF mx.parts.length mc.parts, mc.flows ++ my.flows, mc.items ++ [gcallF (gchorF q ⟨#[100]⟩ ⟨#[120]⟩) (gmoreF mx.parts.length mc.parts) q, gsubF my], gseqsF mc.seqs⟩, ⟨⟨#[100]⟩, mx.parts, mx.flows, mx.items, mx.seqs⟩]⟩ := by
    rw [hmy, hmx, hmc]
    rfl
  rw [hd]
  unfold idsD idsCs
  rw [List.flatMap_cons, List.flatMap_cons, List.flatMap_nil, List.append_nil]
  unfold idsC
  simp only
  rw [idsL_append, idsL_plain pc.items, idsL_plain px.items, gseqs_ids _ hc1, List.map_append, hxp]
  have e1 : idsL [gcallF (gchorF q ⟨#[100]⟩ ⟨#[120]⟩) (gmoreF mx.parts.length mc.parts) q, gsubF my] = gcallS :: (gsubS :: (my.items.map (·.id) ++ my.seqs.map (·.id))) := by
    rw [idsL, idsL, idsL, idsI_eq, idsI_eq]
    show gcallS :: (idsL [] ++ []) ++ (gsubS :: (idsL my.items ++ my.seqs.map (·.id)) ++ []) = _
    rw [idsL_plain py.items, idsL]
    simp
  rw [e1, ← hmc, ← hmx]
  rfl
end Go.Proofs.Ytljmghaplnkohaa
