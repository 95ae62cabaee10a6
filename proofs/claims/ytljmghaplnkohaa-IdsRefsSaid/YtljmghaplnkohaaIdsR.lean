/- Plain law: the ids of a nested document, and of one that is not, are names, each once. -/
import Derived.Test.YtljmghaplnkohaaIdsQ
namespace Go.Proofs.Ytljmghaplnkohaa
open Go.RowKit

def cntR (l : List ByteArray) (a : Nat) : Nat := (l.map rank).count a
def oneC (x : ByteArray) (a : Nat) : Nat := if rank x = a then 1 else 0
theorem cnt_cons (x : ByteArray) (l : List ByteArray) (a : Nat) : cntR (x :: l) a = oneC x a + cntR l a := by
  unfold cntR oneC
  rw [List.map_cons, List.count_cons]
  simp only [beq_iff_eq]
  omega
theorem cnt_nil (a : Nat) : cntR [] a = 0 := rfl
theorem cnt_app (l r : List ByteArray) (a : Nat) : cntR (l ++ r) a = cntR l a + cntR r a := by
  unfold cntR
  rw [List.map_append, List.count_append]
theorem one_fact (x : ByteArray) (r : Nat) (h : rank x = r) (a : Nat) : oneC x a ≤ 1 ∧ (0 < oneC x a → a = r) := by
  unfold oneC
  rw [h]
  split <;> omega
theorem maker_fact {m : MkD} (k : KeyM m) (K N : Nat) (hn : m.n ≤ N) (hK : ∀ s : ByteArray, s.size = m.pre.size + 3 → (∃ r, s = m.pre ++ r ∧ r.data.toList.headD 0 ≠ 120) → rank s = numOf s + K) (a : Nat) :
    cntR (m.items.map (·.id)) a + cntR (m.flows.map (·.id)) a + cntR (m.seqs.map (·.id)) a ≤ 1 ∧ (0 < cntR (m.items.map (·.id)) a + cntR (m.flows.map (·.id)) a + cntR (m.seqs.map (·.id)) a → K + 1 ≤ a ∧ a ≤ K + N) := by
  have h := rank_maker k K hK a
  unfold cntR
  rw [h]
  have hk := k.key (a - K)
  split
  · exact ⟨hk.1, fun h => by have := hk.2 h; omega⟩
  · exact ⟨by omega, fun h => by omega⟩
theorem nested_nodup (p q : List Int) (hp : p.length ≤ maxLen) (hq : q.length ≤ maxLen) : (idsD (gnestedF p q)).Nodup := by
  obtain ⟨parts, ⟨N, hN, hparts⟩, X, hX, hids, _⟩ := nested_ids p q hp hq
  rw [hids]
  obtain ⟨kc1, nc, prc⟩ := key_make p ⟨#[]⟩ low_nil
  obtain ⟨kx1, nx, prx⟩ := key_make q ⟨#[120]⟩ low_x
  obtain ⟨ky1, ny, pry⟩ := key_in q (gmoreF (gchorF q ⟨#[100]⟩ ⟨#[120]⟩).parts.length (gchorF p ⟨#[99]⟩ ⟨#[]⟩).parts)
  refine nodup_of_rank (fun a => ?_)
  have fc := maker_fact kc1 10000 109 nc (fun s h1 h2 => by rw [prc] at h1 h2; exact rank_plain s h1 h2) a
  have fx := maker_fact kx1 40000 109 nx (fun s h1 h2 => by rw [prx] at h1 h2; have := rank_pre 120 (.inl rfl) s h1 h2; rwa [if_neg (by decide)] at this) a
  have fy := maker_fact ky1 30000 25 ny (fun s h1 h2 => by rw [pry] at h1 h2; have := rank_pre 121 (.inr rfl) s h1 h2; rwa [if_pos rfl] at this) a
  have fp := count_range gpn 390 N (fun i hi => rank_gpn i (by omega)) a
  have fq := count_range (fun i => (⟨#[120]⟩ : ByteArray) ++ gpn i) 20390 X (fun i hi => rank_xpn i (by omega)) a
  rw [← hparts] at fp
  change cntR parts a ≤ 1 ∧ (0 < cntR parts a → _) at fp
  change cntR ((List.range X).map (fun i => (⟨#[120]⟩ : ByteArray) ++ gpn i)) a ≤ 1 ∧ (0 < cntR ((List.range X).map (fun i => (⟨#[120]⟩ : ByteArray) ++ gpn i)) a → _) at fq
  have m1 := one_fact ⟨#[109, 97]⟩ 312 (by decide +kernel) a
  have m2 := one_fact ⟨#[109, 98]⟩ 313 (by decide +kernel) a
  have m3 := one_fact ⟨#[109, 99]⟩ 314 (by decide +kernel) a
  have m4 := one_fact ⟨#[109, 100]⟩ 315 (by decide +kernel) a
  have o1 := one_fact ⟨#[99]⟩ 54 (by decide +kernel) a
  have o2 := one_fact ⟨#[100]⟩ 81 (by decide +kernel) a
  have o3 := one_fact gcallS 50297 (by decide +kernel) a
  have o4 := one_fact gsubS 10521 (by decide +kernel) a
  have o5 := one_fact sq1S 10368 (by decide +kernel) a
  have o6 := one_fact sq2S 10369 (by decide +kernel) a
  show cntR _ a ≤ 1
  simp only [cnt_cons, cnt_app, cnt_nil]
  omega
theorem name_maker {m : MkD} (k : KeyM m) (hp : m.pre.size ≤ 10) : (∀ a ∈ m.items.map (·.id), isName a = true ∧ a.size ≤ 60) ∧ (∀ a ∈ m.flows.map (·.id), isName a = true ∧ a.size ≤ 60) ∧ (∀ a ∈ m.seqs.map (·.id), isName a = true ∧ a.size ≤ 60) := by
  have hh : ∀ s : ByteArray, lowB s ∧ s.size = m.pre.size + 3 ∧ (∃ r, s = m.pre ++ r ∧ r.data.toList.headD 0 ≠ 120) → isName s = true ∧ s.size ≤ 60 := fun s h => ⟨isName_low (by omega) (by omega) h.1, by omega⟩
  refine ⟨fun a ha => ?_, fun a ha => ?_, fun a ha => ?_⟩
  · obtain ⟨x, hx, rfl⟩ := List.mem_map.1 ha; exact hh _ (k.items x hx)
  · obtain ⟨x, hx, rfl⟩ := List.mem_map.1 ha; exact hh _ (k.flows x hx)
  · obtain ⟨x, hx, rfl⟩ := List.mem_map.1 ha; exact hh _ (k.seqs x hx)
theorem low_gpn : ∀ i, i < 4 → isName (gpn i) = true ∧ (gpn i).size ≤ 60 := by
  intro i hi
  have hl : lowB (gpn i) := by
    intro b hb
    unfold gpn at hb
    simp only [List.mem_cons, List.not_mem_nil, or_false] at hb
    rcases hb with rfl | rfl
    · decide
    · rw [UInt8.toNat_ofNat']; omega
  exact ⟨isName_low (by show 0 < 2; decide) (by show 2 ≤ 60; decide) hl, by show 2 ≤ 60; decide⟩
theorem low_xpn : ∀ i, i < 4 → isName ((⟨#[120]⟩ : ByteArray) ++ gpn i) = true ∧ ((⟨#[120]⟩ : ByteArray) ++ gpn i).size ≤ 60 := by
  intro i hi
  have hl : lowB ((⟨#[120]⟩ : ByteArray) ++ gpn i) := low_append low_x (by
    intro b hb
    unfold gpn at hb
    simp only [List.mem_cons, List.not_mem_nil, or_false] at hb
    rcases hb with rfl | rfl
    · decide
    · rw [UInt8.toNat_ofNat']; omega)
  have hs : ((⟨#[120]⟩ : ByteArray) ++ gpn i).size = 3 := by rw [ByteArray.size_append]; rfl
  exact ⟨isName_low (by omega) (by omega) hl, by omega⟩
theorem isName_lit {l : List UInt8} (h0 : 0 < l.length) (h60 : l.length ≤ 60) (h : ∀ b ∈ l, 97 ≤ b.toNat ∧ b.toNat ≤ 122) : isName ⟨l.toArray⟩ = true := name_low h0 h60 h
theorem isName_sq (d : UInt8) (hd : 48 ≤ d.toNat ∧ d.toNat ≤ 57) : isName ⟨#[115, 113, d]⟩ = true := by
  unfold isName
  rw [Nm.nameB_iff]
  have hbd : Nm.badFrom [115, 113, d] 0 < 0 := by
    rw [bad_ascii (l := [115, 113, d]) (fun b hb => by
      simp only [List.mem_cons, List.not_mem_nil, or_false] at hb
      rcases hb with rfl | rfl | rfl
      · decide
      · decide
      · omega) _ 0 rfl]
    decide
  refine ⟨by show 0 < 3; decide, by show 3 ≤ 60; decide, ?_, hbd, fun i hi => ?_⟩
  · rw [Nm.startB_iff]; unfold Nm.Bl; exact .inl (by show (97 : Int) ≤ (((115 : UInt8).toNat : Nat) : Int) ∧ (((115 : UInt8).toNat : Nat) : Int) ≤ 122; decide)
  · have hi' : i < 3 := hi
    rw [Nm.partB_iff]
    unfold Nm.Bl
    have hc : i = 0 ∨ i = 1 ∨ i = 2 := by omega
    rcases hc with rfl | rfl | rfl
    · exact .inl (.inl (by show (97 : Int) ≤ (((115 : UInt8).toNat : Nat) : Int) ∧ (((115 : UInt8).toNat : Nat) : Int) ≤ 122; decide))
    · exact .inl (.inl (by show (97 : Int) ≤ (((113 : UInt8).toNat : Nat) : Int) ∧ (((113 : UInt8).toNat : Nat) : Int) ≤ 122; decide))
    · show (_ ∨ (48 ≤ ((d.toNat : Nat) : Int) ∧ ((d.toNat : Nat) : Int) ≤ 57) ∨ _)
      exact .inr (.inl (by omega))
theorem nested_names (p q : List Int) (hp : p.length ≤ maxLen) (hq : q.length ≤ maxLen) : (∀ a ∈ idsD (gnestedF p q), isName a = true ∧ a.size ≤ 60) ∧ (idsD (gnestedF p q)).length ≤ 2000 := by
  obtain ⟨parts, ⟨N, hN, hparts⟩, X, hX, hids, _⟩ := nested_ids p q hp hq
  rw [hids]
  obtain ⟨kc1, nc, prc⟩ := key_make p ⟨#[]⟩ low_nil
  obtain ⟨kx1, nx, prx⟩ := key_make q ⟨#[120]⟩ low_x
  obtain ⟨ky1, ny, pry⟩ := key_in q (gmoreF (gchorF q ⟨#[100]⟩ ⟨#[120]⟩).parts.length (gchorF p ⟨#[99]⟩ ⟨#[]⟩).parts)
  obtain ⟨c1, c2, c3⟩ := name_maker kc1 (by rw [prc]; decide)
  obtain ⟨x1, x2, x3⟩ := name_maker kx1 (by rw [prx]; decide)
  obtain ⟨y1, y2, y3⟩ := name_maker ky1 (by rw [pry]; decide)
  have hgc := gchor_facts p hp ⟨#[99]⟩ ⟨#[]⟩ (by decide)
  have hgx := gchor_facts q hq ⟨#[100]⟩ ⟨#[120]⟩ (by decide)
  have hgy := grow_levelI ⟨q, 5, 0, gmoreF (gchorF q ⟨#[100]⟩ ⟨#[120]⟩).parts.length (gchorF p ⟨#[99]⟩ ⟨#[]⟩).parts, [], [], [], ⟨#[121]⟩⟩ 1
  have lit : ∀ l : List UInt8, 0 < l.length → l.length ≤ 60 → (∀ b ∈ l, 97 ≤ b.toNat ∧ b.toNat ≤ 122) → isName ⟨l.toArray⟩ = true ∧ (⟨l.toArray⟩ : ByteArray).size ≤ 60 := fun l h0 h60 h => ⟨isName_lit h0 h60 h, by simpa [ByteArray.size] using h60⟩
  constructor
  · intro a ha
    simp only [List.mem_append, List.mem_cons, List.not_mem_nil, or_false] at ha
    rcases ha with (rfl | rfl | rfl | rfl) | ((rfl | ha | (ha | ha) | (ha | rfl | rfl | ha | ha) | ha | rfl | rfl) | rfl | ha | ha | ha | ha)
    · exact lit [109, 97] (by decide) (by decide) (by decide)
    · exact lit [109, 98] (by decide) (by decide) (by decide)
    · exact lit [109, 99] (by decide) (by decide) (by decide)
    · exact lit [109, 100] (by decide) (by decide) (by decide)
    · exact lit [99] (by decide) (by decide) (by decide)
    · rw [hparts] at ha
      obtain ⟨i, hi, rfl⟩ := List.mem_map.1 ha
      exact low_gpn i (by have := List.mem_range.1 hi; omega)
    · exact c2 a ha
    · exact y2 a ha
    · exact c1 a ha
    · exact lit [99, 97, 108, 108] (by decide) (by decide) (by decide)
    · exact lit [115, 117, 98] (by decide) (by decide) (by decide)
    · exact y1 a ha
    · exact y3 a ha
    · exact c3 a ha
    · exact ⟨isName_sq 49 (by decide), by decide⟩
    · exact ⟨isName_sq 50 (by decide), by decide⟩
    · exact lit [100] (by decide) (by decide) (by decide)
    · obtain ⟨i, hi, rfl⟩ := List.mem_map.1 ha
      exact low_xpn i (by have := List.mem_range.1 hi; omega)
    · exact x2 a ha
    · exact x1 a ha
    · exact x3 a ha
  · have e1 := hgc.2.2
    have e2 := hgx.2.2
    have hG : gG 1 = 19 := rfl
    have f1 := hgy.items
    have f2 := hgy.flows
    have f3 := hgy.seqs
    rw [hG] at f1 f2 f3
    have a1 : (gmakeF p ⟨#[]⟩).flows.length ≤ 108 := e1.1
    have a2 : (gmakeF p ⟨#[]⟩).items.length ≤ 108 := e1.2.1
    have a3 : (gmakeF p ⟨#[]⟩).seqs.length ≤ 108 := e1.2.2.1
    have b1 : (gmakeF q ⟨#[120]⟩).flows.length ≤ 108 := e2.1
    have b2 : (gmakeF q ⟨#[120]⟩).items.length ≤ 108 := e2.2.1
    have b3 : (gmakeF q ⟨#[120]⟩).seqs.length ≤ 108 := e2.2.2.1
    have g1 : (ginF q (gmoreF (gchorF q ⟨#[100]⟩ ⟨#[120]⟩).parts.length (gchorF p ⟨#[99]⟩ ⟨#[]⟩).parts)).items.length ≤ 0 + (19 + 6) := f1
    have g2 : (ginF q (gmoreF (gchorF q ⟨#[100]⟩ ⟨#[120]⟩).parts.length (gchorF p ⟨#[99]⟩ ⟨#[]⟩).parts)).flows.length ≤ 0 + (19 + 6) := f2
    have g3 : (ginF q (gmoreF (gchorF q ⟨#[100]⟩ ⟨#[120]⟩).parts.length (gchorF p ⟨#[99]⟩ ⟨#[]⟩).parts)).seqs.length ≤ 0 + (19 + 6) := f3
    rw [hparts]
    simp only [List.length_append, List.length_cons, List.length_nil, List.length_map, List.length_range]
    omega
/-- Names, each once: all are added. -/
theorem adds_all : ∀ (l r : List ByteArray), (∀ a ∈ r, isName a = true) → (l ++ r).Nodup → addsF l r = (0, l ++ r)
  | l, [], _, _ => by simp [addsF]
  | l, a :: r, hn, hd => by
    have h1 : addF l a = (0, l ++ [a]) := by
      unfold addF
      rw [if_neg (by rw [hn a (List.mem_cons_self ..)]; decide), if_neg]
      intro h
      obtain ⟨x, hx, he⟩ := List.any_eq_true.1 h
      have hxa : x = a := by
        unfold eqS at he
        rw [beq_iff_eq] at he
        have h1 : x.data.toList = a.data.toList := by rw [Lib.toList_data, Lib.toList_data] at he; exact he
        have h2 : x.data = a.data := Array.toList_inj.1 h1
        obtain ⟨x'⟩ := x
        obtain ⟨a'⟩ := a
        simp only at h2
        rw [h2]
      have := (List.nodup_append.1 hd).2.2 x hx a (List.mem_cons_self ..)
      exact this hxa
    rw [addsF_cons0 (by rw [h1]), h1]
    have := adds_all (l ++ [a]) r (fun b hb => hn b (List.mem_cons_of_mem _ hb)) (by rw [List.append_assoc]; exact hd)
    rw [this, List.append_assoc]
    rfl
theorem nested_adds (p q : List Int) (hp : p.length ≤ maxLen) (hq : q.length ≤ maxLen) : addsF [] (idsD (gnestedF p q)) = (0, idsD (gnestedF p q)) :=
  adds_all [] _ (fun a ha => ((nested_names p q hp hq).1 a ha).1) (nested_nodup p q hp hq)
end Go.Proofs.Ytljmghaplnkohaa
