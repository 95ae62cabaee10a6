/- Plain law: which ids are names; generated ids by their numbers, Plain law: all ids of a nested document are names, no two the same, Plain law: the ids of a nested document, and of one that is not, are names, each once, Plain law: all that a generated document tells of is there, joined. -/
import Derived.Test.YtljmghaplnkohaaIdsAB
import Derived.Test.YtljmghaplnkohaaGenP
import Derived.Test.YtljmghaplnkohaaGenQ
import Derived.Test.YtljmghaplnkohaaIdsFG
namespace Go.Proofs.Ytljmghaplnkohaa
open Go.RowKit

theorem bad_ascii {l : List UInt8} (h : ∀ b ∈ l, b.toNat < 128) : ∀ (m k : Nat), l.length - k = m → Nm.badFrom l k = -1
  | 0, k, hm => Nm.badFrom_end (by omega)
  | m + 1, k, hm => by
    have hk : k < l.length := by omega
    have hb : Nm.Bl (l.drop k) 0 < 128 := by
      rw [Nm.Bl_drop]
      unfold Nm.Bl
      rw [Nat.add_zero, List.getD_eq_getElem?_getD, List.getElem?_eq_getElem hk]
      have := h l[k] (List.getElem_mem hk)
      simp only [Option.getD_some]
      omega
    have hg := Nm.getL_ok1 (l := l.drop k) (by unfold Nm.ok1; exact ⟨by rw [List.length_drop]; omega, hb⟩)
    rw [Nm.badFrom_next hk (n := 1) (by omega) hg]
    exact bad_ascii h m (k + 1) (by omega)
/-- Letters a to z, digits behind the first one. -/
theorem name_low {l : List UInt8} (h0 : 0 < l.length) (h60 : l.length ≤ 60) (h1 : ∀ b ∈ l, 97 ≤ b.toNat ∧ b.toNat ≤ 122) : Nm.nameB l = true := by
  have hget : ∀ i, i < l.length → 97 ≤ Nm.Bl l i ∧ Nm.Bl l i ≤ 122 := fun i hi => by
    unfold Nm.Bl
    rw [List.getD_eq_getElem?_getD, List.getElem?_eq_getElem hi]
    have := h1 l[i] (List.getElem_mem hi)
    simp only [Option.getD_some]
    omega
  rw [Nm.nameB_iff]
  refine ⟨h0, h60, ?_, ?_, fun i hi => ?_⟩
  · rw [Nm.startB_iff]; have := hget 0 h0; omega
  · rw [bad_ascii (fun b hb => by have := h1 b hb; omega) _ 0 rfl]; decide
  · rw [Nm.partB_iff]; have := hget i hi; omega
/-- A text of letters a to z. -/
def lowB (s : ByteArray) : Prop := ∀ b ∈ s.data.toList, 97 ≤ b.toNat ∧ b.toNat ≤ 122
theorem isName_low {s : ByteArray} (h0 : 0 < s.size) (h60 : s.size ≤ 60) (h : lowB s) : isName s = true := by
  unfold isName
  exact name_low (by simpa using h0) (by simpa using h60) h
theorem low_append {a b : ByteArray} (ha : lowB a) (hb : lowB b) : lowB (a ++ b) := by
  intro x hx
  rw [ByteArray.data_append, Array.toList_append] at hx
  rcases List.mem_append.1 hx with hx | hx
  · exact ha x hx
  · exact hb x hx
theorem low_two (n : Nat) : lowB ⟨#[UInt8.ofNat (97 + n / 26 % 26), UInt8.ofNat (97 + n % 26)]⟩ := by
  intro x hx
  simp only [List.mem_cons, List.not_mem_nil, or_false] at hx
  rcases hx with rfl | rfl
  · rw [UInt8.toNat_ofNat']; omega
  · rw [UInt8.toNat_ofNat']; omega
theorem low_name {m : MkD} {s : ByteArray} (hp : lowB m.pre) (hs : lowB s) : lowB (gnameF m s) := low_append hp (low_append hs (low_two _))
/-- The number that an id was made by. -/
def numOf (s : ByteArray) : Nat := (s.data.toList.getD (s.size - 2) 0).toNat * 26 + (s.data.toList.getD (s.size - 1) 0).toNat - 97 * 26 - 97
theorem num_name {m : MkD} {s : ByteArray} (hn : m.n + 1 < 676) : numOf (gnameF m s) = m.n + 1 := by
  unfold numOf gnameF idF
  rw [← ByteArray.append_assoc]
  obtain ⟨q, hq⟩ : ∃ q, q = m.pre ++ s := ⟨_, rfl⟩
  rw [← hq]
  have hsz : (q ++ ⟨#[UInt8.ofNat (97 + (m.n + 1) / 26 % 26), UInt8.ofNat (97 + (m.n + 1) % 26)]⟩ : ByteArray).size = q.size + 2 := by rw [ByteArray.size_append]; rfl
  have hql : q.data.toList.length = q.size := by simp
  rw [hsz, ByteArray.data_append, Array.toList_append]
  have e1 : (q.data.toList ++ [UInt8.ofNat (97 + (m.n + 1) / 26 % 26), UInt8.ofNat (97 + (m.n + 1) % 26)]).getD (q.size + 2 - 2) 0 = UInt8.ofNat (97 + (m.n + 1) / 26 % 26) := by
    rw [List.getD_eq_getElem?_getD, List.getElem?_append_right (by omega), hql]
    simp
  have e2 : (q.data.toList ++ [UInt8.ofNat (97 + (m.n + 1) / 26 % 26), UInt8.ofNat (97 + (m.n + 1) % 26)]).getD (q.size + 2 - 1) 0 = UInt8.ofNat (97 + (m.n + 1) % 26) := by
    rw [List.getD_eq_getElem?_getD, List.getElem?_append_right (by omega), hql, show q.size + 2 - 1 - q.size = 1 by omega]
    simp
  show ((q.data.toList ++ [UInt8.ofNat (97 + (m.n + 1) / 26 % 26), UInt8.ofNat (97 + (m.n + 1) % 26)]).getD (q.size + 2 - 2) 0).toNat * 26 + ((q.data.toList ++ [UInt8.ofNat (97 + (m.n + 1) / 26 % 26), UInt8.ofNat (97 + (m.n + 1) % 26)]).getD (q.size + 2 - 1) 0).toNat - 97 * 26 - 97 = _
  rw [e1, e2, UInt8.toNat_ofNat', UInt8.toNat_ofNat']
  omega
/-- How often a number is an id's, of items, message flows, what follows what. -/
def kc (m : MkD) (a : Nat) : Nat := (m.items.map fun x => numOf x.id).count a + (m.flows.map fun x => numOf x.id).count a + (m.seqs.map fun x => numOf x.id).count a
/-- What holds of all ids of a maker: their first bytes, letters, numbers. -/
structure KeyM (m : MkD) : Prop where
  key : ∀ a, kc m a ≤ 1 ∧ (0 < kc m a → 1 ≤ a ∧ a ≤ m.n)
  items : ∀ x ∈ m.items, lowB x.id ∧ x.id.size = m.pre.size + 3 ∧ ∃ r, x.id = m.pre ++ r ∧ r.data.toList.headD 0 ≠ 120
  flows : ∀ x ∈ m.flows, lowB x.id ∧ x.id.size = m.pre.size + 3 ∧ ∃ r, x.id = m.pre ++ r ∧ r.data.toList.headD 0 ≠ 120
  seqs : ∀ x ∈ m.seqs, lowB x.id ∧ x.id.size = m.pre.size + 3 ∧ ∃ r, x.id = m.pre ++ r ∧ r.data.toList.headD 0 ≠ 120
def KeyI (m : MkD) : Prop := m.n ≤ 600 → lowB m.pre → KeyM m
theorem name_fit (m : MkD) (c : UInt8) (hp : lowB m.pre) (hc : 97 ≤ c.toNat ∧ c.toNat < 120) : lowB (gnameF m ⟨#[c]⟩) ∧ (gnameF m ⟨#[c]⟩).size = m.pre.size + 3 ∧ ∃ r, gnameF m ⟨#[c]⟩ = m.pre ++ r ∧ r.data.toList.headD 0 ≠ 120 := by
  refine ⟨low_name hp (fun b hb => ?_), ?_, _, rfl, ?_⟩
  · have : b = c := by simpa using hb
    rw [this]; omega
  · unfold gnameF idF
    rw [ByteArray.size_append, ByteArray.size_append]
    rfl
  · unfold idF
    rw [ByteArray.data_append, Array.toList_append]
    show c ≠ 120
    intro e
    rw [e] at hc
    exact absurd hc.2 (by decide)
theorem count_snoc (l : List Nat) (b a : Nat) : (l ++ [b]).count a = l.count a + if b = a then 1 else 0 := by
  rw [List.count_append, List.count_cons, List.count_nil]
  simp only [beq_iff_eq, Nat.zero_add]
theorem key_item {m : MkD} (h : KeyI m) (x : ItemD) (c : UInt8) (hc : 97 ≤ c.toNat ∧ c.toNat < 120) (hx : x.id = gnameF m ⟨#[c]⟩) : KeyI (gitemF (gnamedF m) x) := by
  intro hn hp
  have hn' : m.n + 1 ≤ 600 := hn
  have hp' : lowB m.pre := hp
  have k := h (by omega) hp'
  have hnum : numOf x.id = m.n + 1 := by rw [hx]; exact num_name (by omega)
  refine ⟨fun a => ?_, fun y hy => ?_, k.flows, k.seqs⟩
  · have ka := k.key a
    have e : kc (gitemF (gnamedF m) x) a = kc m a + if m.n + 1 = a then 1 else 0 := by
      unfold kc gitemF gnamedF
      simp only [List.map_append, List.map_cons, List.map_nil]
      rw [count_snoc, hnum]
      omega
    rw [e]
    show _ ∧ (_ → 1 ≤ a ∧ a ≤ m.n + 1)
    split <;> omega
  · have hy' : y ∈ m.items ++ [x] := hy
    rcases List.mem_append.1 hy' with hy' | hy'
    · exact k.items y hy'
    · rw [List.mem_singleton.1 hy', hx]; exact name_fit m c hp' hc
theorem key_seq {m : MkD} (h : KeyI m) (a b : ByteArray) : KeyI (gseqF m a b) := by
  intro hn hp
  have hn' : m.n + 1 ≤ 600 := hn
  have hp' : lowB m.pre := hp
  have k := h (by omega) hp'
  have hnum : numOf (gnameF m chS) = m.n + 1 := num_name (by omega)
  refine ⟨fun v => ?_, k.items, k.flows, fun y hy => ?_⟩
  · have ka := k.key v
    have e : kc (gseqF m a b) v = kc m v + if m.n + 1 = v then 1 else 0 := by
      unfold kc gseqF
      simp only [List.map_append, List.map_cons, List.map_nil]
      rw [count_snoc, hnum]
      omega
    rw [e]
    show _ ∧ (_ → 1 ≤ v ∧ v ≤ m.n + 1)
    split <;> omega
  · have hy' : y ∈ m.seqs ++ [⟨gnameF m chS, a, b⟩] := hy
    rcases List.mem_append.1 hy' with hy' | hy'
    · exact k.seqs y hy'
    · rw [List.mem_singleton.1 hy']; exact name_fit m 115 hp' (by decide)
theorem key_task {m : MkD} (h : KeyI m) (x : Nat) : KeyI (gtaskF m x) := by
  intro hn hp
  have hp' : lowB m.pre := hp
  have e1 : ∀ k, numOf (gnameF m k) = m.n + 1 ∨ 675 ≤ m.n := fun k => by
    rcases Nat.lt_or_ge (m.n + 1) 676 with h1 | h1
    · exact .inl (num_name h1)
    · exact .inr (by omega)
  have hnx : (gtaskF m x).n = m.n + (if gback x then 3 else 2) := rfl
  rw [hnx] at hn
  have hn2 : m.n + 2 ≤ 600 := by split at hn <;> omega
  have k := h (by omega) hp'
  have n1 : numOf (gnameF m chT) = m.n + 1 := num_name (by omega)
  have n2 : numOf (gnameF (gnamedF m) chF) = m.n + 1 + 1 := num_name (by show m.n + 1 + 1 < 676; omega)
  have n3 : numOf (gnameF (gnamedF (gnamedF m)) chF) = m.n + 1 + 1 + 1 := num_name (by show m.n + 1 + 1 + 1 < 676; omega)
  refine ⟨fun a => ?_, fun y hy => ?_, fun y hy => ?_, k.seqs⟩
  · have ka := k.key a
    show _ ∧ (_ → 1 ≤ a ∧ a ≤ m.n + (if gback x then 3 else 2))
    have e : kc (gtaskF m x) a = kc m a + (if m.n + 1 = a then 1 else 0) + (if m.n + 1 + 1 = a then 1 else 0) + (if gback x = true then (if m.n + 1 + 1 + 1 = a then 1 else 0) else 0) := by
      unfold kc gtaskF gtaskL
      simp only [List.map_append, List.map_cons, List.map_nil]
      rw [count_snoc]
      cases hb : gback x
      · simp only [Bool.false_eq_true, if_false, List.map_nil, List.count_append, List.count_cons, List.count_nil, beq_iff_eq, Nat.zero_add]
        rw [n2, show numOf (gtaskI m x).id = m.n + 1 from n1]
        omega
      · simp only [if_true, List.map_cons, List.map_nil, List.count_append, List.count_cons, List.count_nil, beq_iff_eq, Nat.zero_add]
        rw [n2, n3, show numOf (gtaskI m x).id = m.n + 1 from n1]
        omega
    rw [e]
    cases gback x
    · simp only [Bool.false_eq_true, if_false]
      split <;> split <;> omega
    · simp only [if_true]
      split <;> split <;> split <;> omega
  · have hy' : y ∈ m.items ++ [gtaskI m x] := hy
    rcases List.mem_append.1 hy' with hy' | hy'
    · exact k.items y hy'
    · rw [List.mem_singleton.1 hy']; exact name_fit m 116 hp' (by decide)
  · have hy' : y ∈ m.flows ++ gtaskL m x := hy
    rcases List.mem_append.1 hy' with hy' | hy'
    · exact k.flows y hy'
    · have h1 := name_fit (gnamedF m) 102 hp' (by decide)
      have h2 := name_fit (gnamedF (gnamedF m)) 102 hp' (by decide)
      unfold gtaskL at hy'
      cases hb : gback x <;> rw [hb] at hy' <;> simp at hy'
      · rw [hy']; exact h1
      · rcases hy' with hy' | hy' <;> rw [hy']
        · exact h1
        · exact h2
theorem key_inv : GenInv KeyI where
  next m h := fun hn hp => ⟨(h hn hp).key, (h hn hp).items, (h hn hp).flows, (h hn hp).seqs⟩
  item m k _ h := key_item h _ 103 (by decide) rfl
  seq m a b _ _ h := key_seq h a b
  task m x h := key_task h x
theorem key_level {m : MkD} (h : KeyI m) (deep : Nat) : KeyI (glevelF m deep) := by
  have b := body_ok key_inv (m := m) deep (key_item h _ 98 (by decide) rfl)
  rw [glevel_eq]
  exact key_seq (key_item b.inv _ 101 (by decide) rfl) _ _
theorem key_none {m : MkD} (h1 : m.items = []) (h2 : m.flows = []) (h3 : m.seqs = []) : KeyI m := by
  intro _ _
  refine ⟨fun a => ?_, fun x hx => ?_, fun x hx => ?_, fun x hx => ?_⟩
  · unfold kc
    rw [h1, h2, h3]
    simp
  · rw [h1] at hx; cases hx
  · rw [h2] at hx; cases hx
  · rw [h3] at hx; cases hx
theorem low_y : lowB ⟨#[121]⟩ := by
  intro b hb
  have : b = 121 := by simpa using hb
  rw [this]
  decide
theorem low_x : lowB ⟨#[120]⟩ := by
  intro b hb
  have : b = 120 := by simpa using hb
  rw [this]
  decide
theorem low_nil : lowB ⟨#[]⟩ := by
  intro b hb
  simp at hb
theorem grow_levelI (m : MkD) (deep : Nat) : GrowM (gG deep + 6) m (glevelF m deep) := by
  have h1 : GrowM 2 m (gstartF m) := (grow_named m).trans (grow_item _ _)
  have h2 := grow_part deep (gstartF m) (gnameF m chB_)
  have h3 : GrowM 3 (gbodyF m deep).2 (glevelF m deep) := ((grow_named _).trans (grow_item _ _)).trans (grow_seq _ _ _)
  exact ((h1.trans h2).trans h3).mono (by omega)
theorem key_make (p : List Int) (pre : ByteArray) (hp : lowB pre) : KeyM (gmakeF p pre) ∧ (gmakeF p pre).n ≤ 109 ∧ (gmakeF p pre).pre = pre := by
  have hg := grow_levelI (gbeginF p (2 + pickF p 0 % 16 % 3) pre) 3
  have hG : gG 3 = 103 := rfl
  have hn : (gmakeF p pre).n ≤ 0 + (gG 3 + 6) := hg.n
  rw [hG] at hn
  have hpre : (gmakeF p pre).pre = pre := hg.pre
  exact ⟨key_level (key_none rfl rfl rfl) 3 (show (gmakeF p pre).n ≤ 600 by omega) (show lowB (gmakeF p pre).pre by rw [hpre]; exact hp), by omega, hpre⟩
theorem key_in (q : List Int) (parts : List PartD) : KeyM (ginF q parts) ∧ (ginF q parts).n ≤ 25 ∧ (ginF q parts).pre = ⟨#[121]⟩ := by
  have gm := grow_levelI ⟨q, 5, 0, parts, [], [], [], ⟨#[121]⟩⟩ 1
  have hG : gG 1 = 19 := rfl
  have hn : (ginF q parts).n ≤ 0 + (gG 1 + 6) := gm.n
  rw [hG] at hn
  have hpre : (ginF q parts).pre = ⟨#[121]⟩ := gm.pre
  exact ⟨key_level (key_none rfl rfl rfl) 1 (show (ginF q parts).n ≤ 600 by omega) (show lowB (ginF q parts).pre by rw [hpre]; exact low_y), by omega, hpre⟩
end Go.Proofs.Ytljmghaplnkohaa
namespace Go.Proofs.Ytljmghaplnkohaa
open Go.RowKit

/-- A number for each id: of those of one kind by their last two letters. -/
def rank (s : ByteArray) : Nat :=
  numOf s + (if s.size ≤ 2 then 0 else if s.size = 3 then (if s.data.toList.headD 0 = 120 then 20000 else 10000) else if s.data.toList.headD 0 = 121 then 30000 else if s.data.toList.headD 0 = 120 then 40000 else 50000)
theorem nodup_of_count : ∀ {l : List Nat}, (∀ a, l.count a ≤ 1) → l.Nodup
  | [], _ => List.nodup_nil
  | x :: l, h => by
    refine List.nodup_cons.2 ⟨fun hx => ?_, nodup_of_count (fun a => ?_)⟩
    · have h1 := h x
      have h2 := List.count_pos_iff.2 hx
      rw [List.count_cons] at h1
      simp at h1
      omega
    · have h1 := h a
      rw [List.count_cons] at h1
      omega
theorem nodup_of_rank {l : List ByteArray} (h : ∀ a, (l.map rank).count a ≤ 1) : l.Nodup := by
  have h1 := nodup_of_count h
  exact (List.pairwise_map.1 h1).imp (fun hne e => hne (by rw [e]))
theorem count_shift {α : Type} (f : α → ByteArray) (K : Nat) : ∀ {l : List α}, (∀ x ∈ l, rank (f x) = numOf (f x) + K) → ∀ a, ((l.map f).map rank).count a = if K ≤ a then (l.map fun x => numOf (f x)).count (a - K) else 0
  | [], _, a => by simp
  | x :: l, h, a => by
    have ih := count_shift f K (fun y hy => h y (List.mem_cons_of_mem _ hy)) a
    have hx := h x (List.mem_cons_self ..)
    simp only [List.map_cons, List.count_cons] at ih ⊢
    rw [ih, hx]
    obtain ⟨n, hn⟩ : ∃ n, n = numOf (f x) := ⟨_, rfl⟩
    rw [← hn]
    simp only [beq_iff_eq]
    by_cases hK : K ≤ a
    · rw [if_pos hK, if_pos hK]
      by_cases he : n = a - K
      · rw [if_pos (show n + K = a by omega), if_pos he]
      · rw [if_neg (show ¬ n + K = a by omega), if_neg he]
    · rw [if_neg hK, if_neg hK, if_neg (show ¬ n + K = a by omega)]
/-- The ranks of a maker's ids. -/
theorem rank_maker {m : MkD} (k : KeyM m) (K : Nat) (hK : ∀ s : ByteArray, s.size = m.pre.size + 3 → (∃ r, s = m.pre ++ r ∧ r.data.toList.headD 0 ≠ 120) → rank s = numOf s + K) (a : Nat) :
    ((m.items.map (·.id)).map rank).count a + ((m.flows.map (·.id)).map rank).count a + ((m.seqs.map (·.id)).map rank).count a = if K ≤ a then kc m (a - K) else 0 := by
  rw [count_shift (·.id) K (fun x hx => hK _ (k.items x hx).2.1 (k.items x hx).2.2), count_shift (·.id) K (fun x hx => hK _ (k.flows x hx).2.1 (k.flows x hx).2.2), count_shift (·.id) K (fun x hx => hK _ (k.seqs x hx).2.1 (k.seqs x hx).2.2)]
  unfold kc
  split <;> omega
theorem rank_plain (s : ByteArray) (h : s.size = 3) (h2 : ∃ r, s = (⟨#[]⟩ : ByteArray) ++ r ∧ r.data.toList.headD 0 ≠ 120) : rank s = numOf s + 10000 := by
  obtain ⟨r, hr, h3⟩ := h2
  have hr' : s = r := by rw [hr]; exact ByteArray.empty_append
  unfold rank
  rw [h, if_neg (by decide), if_pos rfl, hr', if_neg h3]
theorem rank_pre (c : UInt8) (hc : c = 120 ∨ c = 121) (s : ByteArray) (h : s.size = 4) (h2 : ∃ r, s = (⟨#[c]⟩ : ByteArray) ++ r ∧ r.data.toList.headD 0 ≠ 120) : rank s = numOf s + (if c = 121 then 30000 else 40000) := by
  obtain ⟨r, hr, h3⟩ := h2
  have hh : s.data.toList.headD 0 = c := by rw [hr, ByteArray.data_append, Array.toList_append]; rfl
  unfold rank
  rw [h, if_neg (by decide), if_neg (by decide), hh]
  rcases hc with rfl | rfl
  · rw [if_neg (by decide), if_pos rfl, if_neg (by decide)]
  · rw [if_pos rfl, if_pos rfl]
theorem count_range (f : Nat → ByteArray) (K : Nat) : ∀ (N : Nat), (∀ i, i < N → rank (f i) = K + i) → ∀ a, (((List.range N).map f).map rank).count a ≤ 1 ∧ (0 < (((List.range N).map f).map rank).count a → K ≤ a ∧ a < K + N)
  | 0, _, a => by simp
  | N + 1, h, a => by
    obtain ⟨h1, h2⟩ := count_range f K N (fun i hi => h i (by omega)) a
    rw [List.range_succ, List.map_append, List.map_append]
    simp only [List.map_cons, List.map_nil]
    rw [count_snoc, h N (by omega)]
    split
    · constructor
      · rcases Nat.eq_zero_or_pos ((((List.range N).map f).map rank).count a) with h0 | h0
        · omega
        · have := h2 h0; omega
      · intro _; omega
    · constructor
      · omega
      · intro h3; have := h2 (by omega); omega
theorem rank_gpn : ∀ i, i < 4 → rank (gpn i) = 390 + i := by decide +kernel
theorem rank_xpn : ∀ i, i < 4 → rank ((⟨#[120]⟩ : ByteArray) ++ gpn i) = 20390 + i := by decide +kernel
theorem idsL_plain : ∀ {l : List ItemD}, (∀ x ∈ l, PlainI x) → idsL l = l.map (·.id)
  | [], _ => by rw [idsL]; rfl
  | x :: l, h => by
    have hx := h x (List.mem_cons_self ..)
    rw [idsL, idsI_eq, hx.items, hx.seqs, idsL_plain (fun y hy => h y (List.mem_cons_of_mem _ hy))]
    simp [idsL]
theorem idsL_append (a b : List ItemD) : idsL (a ++ b) = idsL a ++ idsL b := by
  induction a with
  | nil => rw [idsL]; rfl
  | cons x a ih => rw [List.cons_append, idsL, idsL, ih, List.append_assoc]
def sq1S : ByteArray := ⟨#[115, 113, 49]⟩
def sq2S : ByteArray := ⟨#[115, 113, 50]⟩
theorem gseqs_ids (l : List SeqD) (hl : 1 ≤ l.length) : (gseqsF l).map (·.id) = l.map (·.id) ++ [sq1S, sq2S] := by
  have hne : l ≠ [] := fun e => by rw [e] at hl; simp at hl
  unfold gseqsF
  conv => rhs; rw [← List.dropLast_concat_getLast hne]
  rw [List.getLastD_eq_getLast?, List.getLast?_eq_some_getLast hne]
  simp only [List.map_append, List.map_cons, List.map_nil, Option.getD_some, List.append_assoc, List.cons_append, List.nil_append]
  rfl
theorem gparts_begin (p : List Int) (n : Nat) (pre : ByteArray) : (gbeginF p n pre).parts.map (·.id) = (List.range n).map (fun i => pre ++ gpn i) := by
  unfold gbeginF
  simp
theorem gmore_ids (n k : Nat) (l : List PartD) (hl : l.map (·.id) = (List.range k).map gpn) : ∃ N, (gmoreF n l).map (·.id) = (List.range N).map gpn ∧ (N = k ∨ N = n) ∧ k ≤ N := by
  have hk : l.length = k := by
    have := congrArg List.length hl
    simpa using this
  unfold gmoreF
  rw [List.map_append, hl, hk]
  refine ⟨k + (n - k), ?_, by omega, by omega⟩
  rw [List.range_add, List.map_append]
  congr 1
  simp
/-- The ids of a nested document, piece by piece. -/
theorem nested_ids (p q : List Int) (hp : p.length ≤ maxLen) (hq : q.length ≤ maxLen) :
    ∃ parts, (∃ N, N ≤ 4 ∧ parts = (List.range N).map gpn) ∧ (∃ X, X ≤ 4 ∧ idsD (gnestedF p q) =
      [⟨#[109, 97]⟩, ⟨#[109, 98]⟩, ⟨#[109, 99]⟩, ⟨#[109, 100]⟩] ++ ((⟨#[99]⟩ : ByteArray) :: (parts ++ (((gmakeF p ⟨#[]⟩).flows.map (·.id) ++ (ginF q (gmoreF (gchorF q ⟨#[100]⟩ ⟨#[120]⟩).parts.length (gchorF p ⟨#[99]⟩ ⟨#[]⟩).parts)).flows.map (·.id)) ++
        (((gmakeF p ⟨#[]⟩).items.map (·.id) ++ (gcallS :: (gsubS :: ((ginF q (gmoreF (gchorF q ⟨#[100]⟩ ⟨#[120]⟩).parts.length (gchorF p ⟨#[99]⟩ ⟨#[]⟩).parts)).items.map (·.id) ++ (ginF q (gmoreF (gchorF q ⟨#[100]⟩ ⟨#[120]⟩).parts.length (gchorF p ⟨#[99]⟩ ⟨#[]⟩).parts)).seqs.map (·.id))))) ++ ((gmakeF p ⟨#[]⟩).seqs.map (·.id) ++ [sq1S, sq2S])))) ++
        ((⟨#[100]⟩ : ByteArray) :: ((List.range X).map (fun i => (⟨#[120]⟩ : ByteArray) ++ gpn i) ++ ((gmakeF q ⟨#[120]⟩).flows.map (·.id) ++ ((gmakeF q ⟨#[120]⟩).items.map (·.id) ++ (gmakeF q ⟨#[120]⟩).seqs.map (·.id)))))) ∧ X = (gmakeF q ⟨#[120]⟩).parts.length) := by
  obtain ⟨mc, hmc⟩ : ∃ m, m = gmakeF p ⟨#[]⟩ := ⟨_, rfl⟩
  obtain ⟨mx, hmx⟩ : ∃ m, m = gmakeF q ⟨#[120]⟩ := ⟨_, rfl⟩
  have pc : PlainM mc := by rw [hmc]; exact plain_chor p ⟨#[]⟩ (by decide)
  have px : PlainM mx := by rw [hmx]; exact plain_chor q ⟨#[120]⟩ (by decide)
  have hfc := gchor_facts p hp ⟨#[99]⟩ ⟨#[]⟩ (by decide)
  have hfx := gchor_facts q hq ⟨#[100]⟩ ⟨#[120]⟩ (by decide)
  have hcp : mc.parts.map (·.id) = (List.range (2 + pickF p 0 % 16 % 3)).map gpn := by
    have hg := grow_levelI (gbeginF p (2 + pickF p 0 % 16 % 3) ⟨#[]⟩) 3
    have : mc.parts = (gbeginF p (2 + pickF p 0 % 16 % 3) ⟨#[]⟩).parts := by rw [hmc]; exact hg.parts
    rw [this, gparts_begin]
    refine List.map_congr_left (fun i _ => ByteArray.empty_append)
  have hxp : mx.parts.map (·.id) = (List.range (2 + pickF q 0 % 16 % 3)).map (fun i => (⟨#[120]⟩ : ByteArray) ++ gpn i) := by
    have hg := grow_levelI (gbeginF q (2 + pickF q 0 % 16 % 3) ⟨#[120]⟩) 3
    have : mx.parts = (gbeginF q (2 + pickF q 0 % 16 % 3) ⟨#[120]⟩).parts := by rw [hmx]; exact hg.parts
    rw [this, gparts_begin]
  have hxl : mx.parts.length = 2 + pickF q 0 % 16 % 3 := by
    have := congrArg List.length hxp
    simpa using this
  have hc1 : 1 ≤ mc.seqs.length := by rw [hmc]; exact hfc.2.2.2.2.2
  obtain ⟨my, hmy⟩ : ∃ m, m = ginF q (gmoreF (gchorF q ⟨#[100]⟩ ⟨#[120]⟩).parts.length (gchorF p ⟨#[99]⟩ ⟨#[]⟩).parts) := ⟨_, rfl⟩
  have py : PlainM my := by rw [hmy]; exact plain_in q _
  obtain ⟨N, hN, hNk, _⟩ := gmore_ids mx.parts.length _ mc.parts hcp
  rw [← hmy]
  refine ⟨(gmoreF mx.parts.length mc.parts).map (·.id), ⟨N, by omega, hN⟩, 2 + pickF q 0 % 16 % 3, by omega, ?_, by rw [← hmx]; omega⟩
  have hd : gnestedF p q = ⟨gmsgsF, [⟨⟨#[99]⟩, gmoreF mx.parts.length mc.parts, mc.flows ++ my.flows, mc.items ++ [gcallF (gchorF q ⟨#[100]⟩ ⟨#[120]⟩) (gmoreF mx.parts.length mc.parts) q, gsubF my], gseqsF mc.seqs⟩, ⟨⟨#[100]⟩, mx.parts, mx.flows, mx.items, mx.seqs⟩]⟩ := by
    rw [hmy, hmx, hmc]
    rfl
  rw [hd]
  unfold idsD idsCs
  rw [List.flatMap_cons, List.flatMap_cons, List.flatMap_nil, List.append_nil]
  unfold idsC
  simp only
  rw [idsL_append, idsL_plain pc.items, idsL_plain px.items, gseqs_ids _ hc1, List.map_append, hxp]
  have e1 : idsL [gcallF (gchorF q ⟨#[100]⟩ ⟨#[120]⟩) (gmoreF mx.parts.length mc.parts) q, gsubF my] = gcallS :: (gsubS :: (my.items.map (·.id) ++ my.seqs.map (·.id))) := by
    rw [idsL, idsL, idsL, idsI_eq, idsI_eq]
    show gcallS :: (idsL [] ++ []) ++ (gsubS :: (idsL my.items ++ my.seqs.map (·.id)) ++ []) = _
    rw [idsL_plain py.items, idsL]
    simp
  rw [e1, ← hmc, ← hmx]
  rfl
end Go.Proofs.Ytljmghaplnkohaa
namespace Go.Proofs.Ytljmghaplnkohaa
open Go.RowKit

def cntR (l : List ByteArray) (a : Nat) : Nat := (l.map rank).count a
def oneC (x : ByteArray) (a : Nat) : Nat := if rank x = a then 1 else 0
theorem cnt_cons (x : ByteArray) (l : List ByteArray) (a : Nat) : cntR (x :: l) a = oneC x a + cntR l a := by
  unfold cntR oneC
  rw [List.map_cons, List.count_cons]
  simp only [beq_iff_eq]
  omega
theorem cnt_nil (a : Nat) : cntR [] a = 0 := rfl
theorem cnt_app (l r : List ByteArray) (a : Nat) : cntR (l ++ r) a = cntR l a + cntR r a := by
  unfold cntR
  rw [List.map_append, List.count_append]
theorem one_fact (x : ByteArray) (r : Nat) (h : rank x = r) (a : Nat) : oneC x a ≤ 1 ∧ (0 < oneC x a → a = r) := by
  unfold oneC
  rw [h]
  split <;> omega
theorem maker_fact {m : MkD} (k : KeyM m) (K N : Nat) (hn : m.n ≤ N) (hK : ∀ s : ByteArray, s.size = m.pre.size + 3 → (∃ r, s = m.pre ++ r ∧ r.data.toList.headD 0 ≠ 120) → rank s = numOf s + K) (a : Nat) :
    cntR (m.items.map (·.id)) a + cntR (m.flows.map (·.id)) a + cntR (m.seqs.map (·.id)) a ≤ 1 ∧ (0 < cntR (m.items.map (·.id)) a + cntR (m.flows.map (·.id)) a + cntR (m.seqs.map (·.id)) a → K + 1 ≤ a ∧ a ≤ K + N) := by
  have h := rank_maker k K hK a
  unfold cntR
  rw [h]
  have hk := k.key (a - K)
  split
  · exact ⟨hk.1, fun h => by have := hk.2 h; omega⟩
  · exact ⟨by omega, fun h => by omega⟩
theorem nested_nodup (p q : List Int) (hp : p.length ≤ maxLen) (hq : q.length ≤ maxLen) : (idsD (gnestedF p q)).Nodup := by
  obtain ⟨parts, ⟨N, hN, hparts⟩, X, hX, hids, _⟩ := nested_ids p q hp hq
  rw [hids]
  obtain ⟨kc1, nc, prc⟩ := key_make p ⟨#[]⟩ low_nil
  obtain ⟨kx1, nx, prx⟩ := key_make q ⟨#[120]⟩ low_x
  obtain ⟨ky1, ny, pry⟩ := key_in q (gmoreF (gchorF q ⟨#[100]⟩ ⟨#[120]⟩).parts.length (gchorF p ⟨#[99]⟩ ⟨#[]⟩).parts)
  refine nodup_of_rank (fun a => ?_)
  have fc := maker_fact kc1 10000 109 nc (fun s h1 h2 => by rw [prc] at h1 h2; exact rank_plain s h1 h2) a
  have fx := maker_fact kx1 40000 109 nx (fun s h1 h2 => by rw [prx] at h1 h2; have := rank_pre 120 (.inl rfl) s h1 h2; rwa [if_neg (by decide)] at this) a
  have fy := maker_fact ky1 30000 25 ny (fun s h1 h2 => by rw [pry] at h1 h2; have := rank_pre 121 (.inr rfl) s h1 h2; rwa [if_pos rfl] at this) a
  have fp := count_range gpn 390 N (fun i hi => rank_gpn i (by omega)) a
  have fq := count_range (fun i => (⟨#[120]⟩ : ByteArray) ++ gpn i) 20390 X (fun i hi => rank_xpn i (by omega)) a
  rw [← hparts] at fp
  change cntR parts a ≤ 1 ∧ (0 < cntR parts a → _) at fp
  change cntR ((List.range X).map (fun i => (⟨#[120]⟩ : ByteArray) ++ gpn i)) a ≤ 1 ∧ (0 < cntR ((List.range X).map (fun i => (⟨#[120]⟩ : ByteArray) ++ gpn i)) a → _) at fq
  have m1 := one_fact ⟨#[109, 97]⟩ 312 (by decide +kernel) a
  have m2 := one_fact ⟨#[109, 98]⟩ 313 (by decide +kernel) a
  have m3 := one_fact ⟨#[109, 99]⟩ 314 (by decide +kernel) a
  have m4 := one_fact ⟨#[109, 100]⟩ 315 (by decide +kernel) a
  have o1 := one_fact ⟨#[99]⟩ 54 (by decide +kernel) a
  have o2 := one_fact ⟨#[100]⟩ 81 (by decide +kernel) a
  have o3 := one_fact gcallS 50297 (by decide +kernel) a
  have o4 := one_fact gsubS 10521 (by decide +kernel) a
  have o5 := one_fact sq1S 10368 (by decide +kernel) a
  have o6 := one_fact sq2S 10369 (by decide +kernel) a
  show cntR _ a ≤ 1
  simp only [cnt_cons, cnt_app, cnt_nil]
  omega
theorem name_maker {m : MkD} (k : KeyM m) (hp : m.pre.size ≤ 10) : (∀ a ∈ m.items.map (·.id), isName a = true ∧ a.size ≤ 60) ∧ (∀ a ∈ m.flows.map (·.id), isName a = true ∧ a.size ≤ 60) ∧ (∀ a ∈ m.seqs.map (·.id), isName a = true ∧ a.size ≤ 60) := by
  have hh : ∀ s : ByteArray, lowB s ∧ s.size = m.pre.size + 3 ∧ (∃ r, s = m.pre ++ r ∧ r.data.toList.headD 0 ≠ 120) → isName s = true ∧ s.size ≤ 60 := fun s h => ⟨isName_low (by omega) (by omega) h.1, by omega⟩
  refine ⟨fun a ha => ?_, fun a ha => ?_, fun a ha => ?_⟩
  · obtain ⟨x, hx, rfl⟩ := List.mem_map.1 ha; exact hh _ (k.items x hx)
  · obtain ⟨x, hx, rfl⟩ := List.mem_map.1 ha; exact hh _ (k.flows x hx)
  · obtain ⟨x, hx, rfl⟩ := List.mem_map.1 ha; exact hh _ (k.seqs x hx)
theorem low_gpn : ∀ i, i < 4 → isName (gpn i) = true ∧ (gpn i).size ≤ 60 := by
  intro i hi
  have hl : lowB (gpn i) := by
    intro b hb
    unfold gpn at hb
    simp only [List.mem_cons, List.not_mem_nil, or_false] at hb
    rcases hb with rfl | rfl
    · decide
    · rw [UInt8.toNat_ofNat']; omega
  exact ⟨isName_low (by show 0 < 2; decide) (by show 2 ≤ 60; decide) hl, by show 2 ≤ 60; decide⟩
theorem low_xpn : ∀ i, i < 4 → isName ((⟨#[120]⟩ : ByteArray) ++ gpn i) = true ∧ ((⟨#[120]⟩ : ByteArray) ++ gpn i).size ≤ 60 := by
  intro i hi
  have hl : lowB ((⟨#[120]⟩ : ByteArray) ++ gpn i) := low_append low_x (by
    intro b hb
    unfold gpn at hb
    simp only [List.mem_cons, List.not_mem_nil, or_false] at hb
    rcases hb with rfl | rfl
    · decide
    · rw [UInt8.toNat_ofNat']; omega)
  have hs : ((⟨#[120]⟩ : ByteArray) ++ gpn i).size = 3 := by rw [ByteArray.size_append]; rfl
  exact ⟨isName_low (by omega) (by omega) hl, by omega⟩
theorem isName_lit {l : List UInt8} (h0 : 0 < l.length) (h60 : l.length ≤ 60) (h : ∀ b ∈ l, 97 ≤ b.toNat ∧ b.toNat ≤ 122) : isName ⟨l.toArray⟩ = true := name_low h0 h60 h
theorem isName_sq (d : UInt8) (hd : 48 ≤ d.toNat ∧ d.toNat ≤ 57) : isName ⟨#[115, 113, d]⟩ = true := by
  unfold isName
  rw [Nm.nameB_iff]
  have hbd : Nm.badFrom [115, 113, d] 0 < 0 := by
    rw [bad_ascii (l := [115, 113, d]) (fun b hb => by
      simp only [List.mem_cons, List.not_mem_nil, or_false] at hb
      rcases hb with rfl | rfl | rfl
      · decide
      · decide
      · omega) _ 0 rfl]
    decide
  refine ⟨by show 0 < 3; decide, by show 3 ≤ 60; decide, ?_, hbd, fun i hi => ?_⟩
  · rw [Nm.startB_iff]; unfold Nm.Bl; exact .inl (by show (97 : Int) ≤ (((115 : UInt8).toNat : Nat) : Int) ∧ (((115 : UInt8).toNat : Nat) : Int) ≤ 122; decide)
  · have hi' : i < 3 := hi
    rw [Nm.partB_iff]
    unfold Nm.Bl
    have hc : i = 0 ∨ i = 1 ∨ i = 2 := by omega
    rcases hc with rfl | rfl | rfl
    · exact .inl (.inl (by show (97 : Int) ≤ (((115 : UInt8).toNat : Nat) : Int) ∧ (((115 : UInt8).toNat : Nat) : Int) ≤ 122; decide))
    · exact .inl (.inl (by show (97 : Int) ≤ (((113 : UInt8).toNat : Nat) : Int) ∧ (((113 : UInt8).toNat : Nat) : Int) ≤ 122; decide))
    · show (_ ∨ (48 ≤ ((d.toNat : Nat) : Int) ∧ ((d.toNat : Nat) : Int) ≤ 57) ∨ _)
      exact .inr (.inl (by omega))
theorem nested_names (p q : List Int) (hp : p.length ≤ maxLen) (hq : q.length ≤ maxLen) : (∀ a ∈ idsD (gnestedF p q), isName a = true ∧ a.size ≤ 60) ∧ (idsD (gnestedF p q)).length ≤ 2000 := by
  obtain ⟨parts, ⟨N, hN, hparts⟩, X, hX, hids, _⟩ := nested_ids p q hp hq
  rw [hids]
  obtain ⟨kc1, nc, prc⟩ := key_make p ⟨#[]⟩ low_nil
  obtain ⟨kx1, nx, prx⟩ := key_make q ⟨#[120]⟩ low_x
  obtain ⟨ky1, ny, pry⟩ := key_in q (gmoreF (gchorF q ⟨#[100]⟩ ⟨#[120]⟩).parts.length (gchorF p ⟨#[99]⟩ ⟨#[]⟩).parts)
  obtain ⟨c1, c2, c3⟩ := name_maker kc1 (by rw [prc]; decide)
  obtain ⟨x1, x2, x3⟩ := name_maker kx1 (by rw [prx]; decide)
  obtain ⟨y1, y2, y3⟩ := name_maker ky1 (by rw [pry]; decide)
  have hgc := gchor_facts p hp ⟨#[99]⟩ ⟨#[]⟩ (by decide)
  have hgx := gchor_facts q hq ⟨#[100]⟩ ⟨#[120]⟩ (by decide)
  have hgy := grow_levelI ⟨q, 5, 0, gmoreF (gchorF q ⟨#[100]⟩ ⟨#[120]⟩).parts.length (gchorF p ⟨#[99]⟩ ⟨#[]⟩).parts, [], [], [], ⟨#[121]⟩⟩ 1
  have lit : ∀ l : List UInt8, 0 < l.length → l.length ≤ 60 → (∀ b ∈ l, 97 ≤ b.toNat ∧ b.toNat ≤ 122) → isName ⟨l.toArray⟩ = true ∧ (⟨l.toArray⟩ : ByteArray).size ≤ 60 := fun l h0 h60 h => ⟨isName_lit h0 h60 h, by simpa [ByteArray.size] using h60⟩
  constructor
  · intro a ha
    simp only [List.mem_append, List.mem_cons, List.not_mem_nil, or_false] at ha
    rcases ha with (rfl | rfl | rfl | rfl) | ((rfl | ha | (ha | ha) | (ha | rfl | rfl | ha | ha) | ha | rfl | rfl) | rfl | ha | ha | ha | ha)
    · exact lit [109, 97] (by decide) (by decide) (by decide)
    · exact lit [109, 98] (by decide) (by decide) (by decide)
    · exact lit [109, 99] (by decide) (by decide) (by decide)
    · exact lit [109, 100] (by decide) (by decide) (by decide)
    · exact lit [99] (by decide) (by decide) (by decide)
    · rw [hparts] at ha
      obtain ⟨i, hi, rfl⟩ := List.mem_map.1 ha
      exact low_gpn i (by have := List.mem_range.1 hi; omega)
    · exact c2 a ha
    · exact y2 a ha
    · exact c1 a ha
    · exact lit [99, 97, 108, 108] (by decide) (by decide) (by decide)
    · exact lit [115, 117, 98] (by decide) (by decide) (by decide)
    · exact y1 a ha
    · exact y3 a ha
    · exact c3 a ha
    · exact ⟨isName_sq 49 (by decide), by decide⟩
    · exact ⟨isName_sq 50 (by decide), by decide⟩
    · exact lit [100] (by decide) (by decide) (by decide)
    · obtain ⟨i, hi, rfl⟩ := List.mem_map.1 ha
      exact low_xpn i (by have := List.mem_range.1 hi; omega)
    · exact x2 a ha
    · exact x1 a ha
    · exact x3 a ha
  · have e1 := hgc.2.2
    have e2 := hgx.2.2
    have hG : gG 1 = 19 := rfl
    have f1 := hgy.items
    have f2 := hgy.flows
    have f3 := hgy.seqs
    rw [hG] at f1 f2 f3
    have a1 : (gmakeF p ⟨#[]⟩).flows.length ≤ 108 := e1.1
    have a2 : (gmakeF p ⟨#[]⟩).items.length ≤ 108 := e1.2.1
    have a3 : (gmakeF p ⟨#[]⟩).seqs.length ≤ 108 := e1.2.2.1
    have b1 : (gmakeF q ⟨#[120]⟩).flows.length ≤ 108 := e2.1
    have b2 : (gmakeF q ⟨#[120]⟩).items.length ≤ 108 := e2.2.1
    have b3 : (gmakeF q ⟨#[120]⟩).seqs.length ≤ 108 := e2.2.2.1
    have g1 : (ginF q (gmoreF (gchorF q ⟨#[100]⟩ ⟨#[120]⟩).parts.length (gchorF p ⟨#[99]⟩ ⟨#[]⟩).parts)).items.length ≤ 0 + (19 + 6) := f1
    have g2 : (ginF q (gmoreF (gchorF q ⟨#[100]⟩ ⟨#[120]⟩).parts.length (gchorF p ⟨#[99]⟩ ⟨#[]⟩).parts)).flows.length ≤ 0 + (19 + 6) := f2
    have g3 : (ginF q (gmoreF (gchorF q ⟨#[100]⟩ ⟨#[120]⟩).parts.length (gchorF p ⟨#[99]⟩ ⟨#[]⟩).parts)).seqs.length ≤ 0 + (19 + 6) := f3
    rw [hparts]
    simp only [List.length_append, List.length_cons, List.length_nil, List.length_map, List.length_range]
    omega
/-- Names, each once: all are added. -/
theorem adds_all : ∀ (l r : List ByteArray), (∀ a ∈ r, isName a = true) → (l ++ r).Nodup → addsF l r = (0, l ++ r)
  | l, [], _, _ => by simp [addsF]
  | l, a :: r, hn, hd => by
    have h1 : addF l a = (0, l ++ [a]) := by
      unfold addF
      rw [if_neg (by rw [hn a (List.mem_cons_self ..)]; decide), if_neg]
      intro h
      obtain ⟨x, hx, he⟩ := List.any_eq_true.1 h
      have hxa : x = a := by
        unfold eqS at he
        rw [beq_iff_eq] at he
        have h1 : x.data.toList = a.data.toList := by rw [Lib.toList_data, Lib.toList_data] at he; exact he
        have h2 : x.data = a.data := Array.toList_inj.1 h1
        obtain ⟨x'⟩ := x
        obtain ⟨a'⟩ := a
        simp only at h2
        rw [h2]
      have := (List.nodup_append.1 hd).2.2 x hx a (List.mem_cons_self ..)
      exact this hxa
    rw [addsF_cons0 (by rw [h1]), h1]
    have := adds_all (l ++ [a]) r (fun b hb => hn b (List.mem_cons_of_mem _ hb)) (by rw [List.append_assoc]; exact hd)
    rw [this, List.append_assoc]
    rfl
theorem nested_adds (p q : List Int) (hp : p.length ≤ maxLen) (hq : q.length ≤ maxLen) : addsF [] (idsD (gnestedF p q)) = (0, idsD (gnestedF p q)) :=
  adds_all [] _ (fun a ha => ((nested_names p q hp hq).1 a ha).1) (nested_nodup p q hp hq)
end Go.Proofs.Ytljmghaplnkohaa
namespace Go.Proofs.Ytljmghaplnkohaa
open Go.RowKit

theorem eqS_iff (a b : ByteArray) : eqS a b = true ↔ a = b := by
  unfold eqS
  rw [beq_iff_eq]
  constructor
  · intro h
    have h1 : a.data.toList = b.data.toList := by rw [Lib.toList_data, Lib.toList_data] at h; exact h
    have h2 : a.data = b.data := Array.toList_inj.1 h1
    obtain ⟨x⟩ := a
    obtain ⟨y⟩ := b
    simp only at h2
    rw [h2]
  · intro h; rw [h]
theorem find_geI {α : Type} {p : α → Bool} : ∀ {l : List α} (k : Nat), (∃ x ∈ l, p x = true) → (k : Int) ≤ findFrom p l k
  | [], _, h => by obtain ⟨x, hx, _⟩ := h; cases hx
  | y :: l, k, h => by
    unfold findFrom
    by_cases hy : p y = true
    · rw [if_pos hy]; omega
    · rw [if_neg hy]
      obtain ⟨x, hx, hp⟩ := h
      rcases List.mem_cons.1 hx with rfl | hx
      · exact absurd hp hy
      · have := find_geI (k + 1) ⟨x, hx, hp⟩
        omega
theorem find_noneI {α : Type} {p : α → Bool} : ∀ {l : List α} (k : Nat), (∀ x ∈ l, p x = false) → findFrom p l k = -1
  | [], _, _ => rfl
  | y :: l, k, h => by
    unfold findFrom
    rw [if_neg (by rw [h y (List.mem_cons_self ..)]; simp)]
    exact find_noneI (k + 1) (fun x hx => h x (List.mem_cons_of_mem _ hx))
/-- By ids that are no two the same each is found at its place. -/
theorem find_at {α : Type} (f : α → ByteArray) : ∀ {l : List α} {i : Nat} (k : Nat) (hi : i < l.length), (l.map f).Nodup → findFrom (fun x => eqS (f x) (f l[i])) l k = ((k + i : Nat) : Int)
  | x :: l, 0, k, _, _ => by
    unfold findFrom
    rw [List.getElem_cons_zero, if_pos ((eqS_iff _ _).2 rfl)]
    rfl
  | x :: l, i + 1, k, hi, hd => by
    have hd' := List.nodup_cons.1 (by simpa using hd : (f x :: l.map f).Nodup)
    unfold findFrom
    rw [if_neg, List.getElem_cons_succ]
    · rw [find_at f (k + 1) (by simpa using hi) hd'.2]
      congr 1
      omega
    · intro h
      have he := (eqS_iff _ _).1 h
      rw [List.getElem_cons_succ] at he
      exact hd'.1 (by rw [he]; exact List.mem_map.2 ⟨_, List.getElem_mem _, rfl⟩)
theorem partAt_ge {c : ChorD} {p : ByteArray} (h : ∃ x ∈ c.parts, x.id = p) : 0 ≤ partAt c p := by
  obtain ⟨x, hx, he⟩ := h
  have := find_geI (p := fun x : PartD => eqS x.id p) 0 ⟨x, hx, (eqS_iff _ _).2 he⟩
  unfold partAt
  omega
theorem flowAt_ge {c : ChorD} {p : ByteArray} (h : ∃ x ∈ c.flows, x.id = p) : 0 ≤ flowAt c p := by
  obtain ⟨x, hx, he⟩ := h
  have := find_geI (p := fun x : FlowD => eqS x.id p) 0 ⟨x, hx, (eqS_iff _ _).2 he⟩
  unfold flowAt
  omega
theorem msgAt_ge {d : DocD} {p : ByteArray} (h : ∃ x ∈ d.msgs, x.id = p) : 0 ≤ msgAt d p := by
  obtain ⟨x, hx, he⟩ := h
  have := find_geI (p := fun x : PartD => eqS x.id p) 0 ⟨x, hx, (eqS_iff _ _).2 he⟩
  unfold msgAt
  omega
theorem itemAt_ge {l : List ItemD} {p : ByteArray} (h : ∃ x ∈ l, x.id = p) : 0 ≤ itemAt l p := by
  obtain ⟨x, hx, he⟩ := h
  have := find_geI (p := fun x : ItemD => eqS x.id p) 0 ⟨x, hx, (eqS_iff _ _).2 he⟩
  unfold itemAt
  omega
/-- What a task tells of is there. -/
structure TaskR (ps : List PartD) (fs : List FlowD) (x : ItemD) : Prop where
  first : ∃ y ∈ ps, y.id = x.first
  parts : ∀ p ∈ x.parts, ∃ y ∈ ps, y.id = p
  flows : ∀ f ∈ x.flows, ∃ y ∈ fs, y.id = f
theorem TaskR.mono {ps ps' : List PartD} {fs fs' : List FlowD} {x : ItemD} (h : TaskR ps fs x) (h1 : ∀ y ∈ ps, y ∈ ps') (h2 : ∀ y ∈ fs, y ∈ fs') : TaskR ps' fs' x := by
  refine ⟨?_, fun p hp => ?_, fun f hf => ?_⟩
  · obtain ⟨y, hy, e⟩ := h.first; exact ⟨y, h1 y hy, e⟩
  · obtain ⟨y, hy, e⟩ := h.parts p hp; exact ⟨y, h1 y hy, e⟩
  · obtain ⟨y, hy, e⟩ := h.flows f hf; exact ⟨y, h2 y hy, e⟩
structure RefM (m : MkD) : Prop where
  two : 2 ≤ m.parts.length
  flows : ∀ f ∈ m.flows, (∃ x ∈ m.parts, x.id = f.src) ∧ (∃ x ∈ m.parts, x.id = f.dst) ∧ ∃ x ∈ gmsgsF, x.id = f.msg
  tasks : ∀ x ∈ m.items, x.kind = 3 → TaskR m.parts m.flows x
  seqs : ∀ s ∈ m.seqs, HasI m s.src ∧ HasI m s.dst
theorem gpart_mem {m : MkD} {a : Nat} (h : a < m.parts.length) : ∃ x ∈ m.parts, x.id = gpart m a := by
  unfold gpart
  rw [List.getD_eq_getElem?_getD, List.getElem?_eq_getElem h]
  exact ⟨_, List.getElem_mem h, rfl⟩
theorem gmsg_mem (x : Nat) : ∃ y ∈ gmsgsF, y.id = gmsg x := by
  have h : x / 256 % 16 % 3 < 3 := Nat.mod_lt _ (by omega)
  unfold gmsg
  obtain ⟨k, hk⟩ : ∃ k, k = x / 256 % 16 % 3 := ⟨_, rfl⟩
  rw [← hk] at h ⊢
  have : k = 0 ∨ k = 1 ∨ k = 2 := by omega
  rcases this with rfl | rfl | rfl
  · exact ⟨⟨⟨#[109, 97]⟩, ⟨#[111, 110, 101]⟩⟩, by unfold gmsgsF; simp, rfl⟩
  · exact ⟨⟨⟨#[109, 98]⟩, ⟨#[]⟩⟩, by unfold gmsgsF; simp, rfl⟩
  · exact ⟨⟨⟨#[109, 99]⟩, ⟨#[97, 32, 38, 32, 98]⟩⟩, by unfold gmsgsF; simp, rfl⟩
theorem ref_push {m : MkD} (h : RefM m) (k : Int) (hk : k ≠ 3) (id : ByteArray) : RefM (gitemF (gnamedF m) (gitem0 k id)) := by
  refine ⟨h.two, h.flows, fun x hx h3 => ?_, fun q hq => ⟨(h.seqs q hq).1.more (more_item _ _), (h.seqs q hq).2.more (more_item _ _)⟩⟩
  have hx' : x ∈ m.items ++ [gitem0 k id] := hx
  rcases List.mem_append.1 hx' with hx' | hx'
  · exact h.tasks x hx' h3
  · rw [List.mem_singleton.1 hx'] at h3; exact absurd h3 hk
theorem ref_seq {m : MkD} (h : RefM m) {a b : ByteArray} (ha : HasI m a) (hb : HasI m b) : RefM (gseqF m a b) := by
  refine ⟨h.two, h.flows, h.tasks, fun q hq => ?_⟩
  have hq' : q ∈ m.seqs ++ [⟨gnameF m chS, a, b⟩] := hq
  rcases List.mem_append.1 hq' with hq' | hq'
  · exact ⟨(h.seqs q hq').1.more (more_seq _ _ _), (h.seqs q hq').2.more (more_seq _ _ _)⟩
  · rw [List.mem_singleton.1 hq']
    exact ⟨ha.more (more_seq _ _ _), hb.more (more_seq _ _ _)⟩
theorem ref_inv : GenInv RefM where
  next m h := ⟨h.two, h.flows, h.tasks, h.seqs⟩
  item m k hk h := ref_push h k (by omega) _
  seq m a b ha hb h := ref_seq h ha hb
  task m x h := by
    have hA := gpart_mem (m := m) (a := gA m x) (Nat.mod_lt _ (by have := h.two; omega))
    have hB := gpart_mem (m := m) (a := gB m x) (Nat.mod_lt _ (by have := h.two; omega))
    refine ⟨h.two, fun f hf => ?_, fun y hy h3 => ?_, fun q hq => ⟨(h.seqs q hq).1.more (more_task _ _), (h.seqs q hq).2.more (more_task _ _)⟩⟩
    · have hf' : f ∈ m.flows ++ gtaskL m x := hf
      rcases List.mem_append.1 hf' with hf' | hf'
      · exact h.flows f hf'
      · unfold gtaskL at hf'
        cases hb : gback x <;> rw [hb] at hf' <;> simp at hf'
        · rw [hf']; exact ⟨hA, hB, gmsg_mem x⟩
        · rcases hf' with hf' | hf' <;> rw [hf']
          · exact ⟨hA, hB, gmsg_mem x⟩
          · exact ⟨hB, hA, ⟨⟨⟨#[109, 100]⟩, ⟨#[]⟩⟩, by unfold gmsgsF; simp, rfl⟩⟩
    · have hy' : y ∈ m.items ++ [gtaskI m x] := hy
      have hfl : (gtaskF m x).flows = m.flows ++ gtaskL m x := rfl
      rcases List.mem_append.1 hy' with hy' | hy'
      · exact (h.tasks y hy' h3).mono (fun _ h => h) (fun z hz => by rw [hfl]; exact List.mem_append_left _ hz)
      · rw [List.mem_singleton.1 hy']
        refine ⟨hA, fun p hp => ?_, fun id hid => ?_⟩
        · have hp' : p ∈ [gpart m (gA m x), gpart m (gB m x)] := hp
          simp only [List.mem_cons, List.not_mem_nil, or_false] at hp'
          rcases hp' with rfl | rfl
          · exact hA
          · exact hB
        · rw [hfl]
          unfold gtaskI at hid
          unfold gtaskL
          cases hb : gback x <;> rw [hb] at hid <;> simp at hid
          · exact ⟨_, List.mem_append_right _ (List.mem_cons_self ..), hid.symm⟩
          · rcases hid with hid | hid
            · exact ⟨_, List.mem_append_right _ (List.mem_cons_self ..), hid.symm⟩
            · exact ⟨⟨gnameF (gnamedF (gnamedF m)) chF, gpart m (gB m x), gpart m (gA m x), ⟨#[109, 100]⟩⟩, List.mem_append_right _ (by simp), hid.symm⟩
theorem ref_level {m : MkD} (h : RefM m) (deep : Nat) : RefM (glevelF m deep) := by
  have b := body_ok ref_inv (m := m) deep (ref_push h 1 (by decide) _)
  rw [glevel_eq]
  exact ref_seq (ref_push b.inv 2 (by decide) _) (b.has.more (more_item _ _)) (has_item _ _)
theorem ref_make (p : List Int) (pre : ByteArray) : RefM (gmakeF p pre) :=
  ref_level ⟨by simp [gbeginF], fun f hf => by simp [gbeginF] at hf, fun f hf => by simp [gbeginF] at hf, fun f hf => by simp [gbeginF] at hf⟩ 3
theorem ref_in (q : List Int) (parts : List PartD) (h : 2 ≤ parts.length) : RefM (ginF q parts) :=
  ref_level ⟨h, fun f hf => by simp at hf, fun f hf => by simp at hf, fun f hf => by simp at hf⟩ 1
theorem ginF_parts (q : List Int) (parts : List PartD) : (ginF q parts).parts = parts := (grow_levelI ⟨q, 5, 0, parts, [], [], [], ⟨#[121]⟩⟩ 1).parts
theorem okL_all (d : DocD) (c : ChorD) : ∀ {l : List ItemD}, okL d c l = true ↔ ∀ x ∈ l, okI d c x = true
  | [] => by unfold okL; simp
  | x :: l => by
    unfold okL
    rw [Bool.and_eq_true, okL_all d c]
    simp
theorem okTask_of {c : ChorD} {x : ItemD} (h : TaskR c.parts c.flows x) : okTask c x.first x.parts x.flows = true := by
  unfold okTask
  rw [Bool.and_eq_true, Bool.and_eq_true, decide_eq_true_eq, Bool.not_eq_true', Bool.not_eq_true', List.any_eq_false, List.any_eq_false]
  refine ⟨⟨partAt_ge h.first, fun p hp => ?_⟩, fun f hf => ?_⟩
  · have := partAt_ge (h.parts p hp); simp; omega
  · have := flowAt_ge (h.flows f hf); simp; omega
theorem okI_plain {d : DocD} {c : ChorD} {x : ItemD} (hp : PlainI x) (h : x.kind = 3 → TaskR c.parts c.flows x) : okI d c x = true := by
  rw [okI_eq]
  have hk := hp.kind
  by_cases h3 : x.kind = 3
  · rw [if_pos h3]; exact okTask_of (h h3)
  · rw [if_neg h3, if_neg (by omega), if_neg (by omega)]
theorem okSeqs_of {l : List ItemD} {s : List SeqD} (h : ∀ q ∈ s, (∃ x ∈ l, x.id = q.src) ∧ ∃ x ∈ l, x.id = q.dst) : okSeqs l s = true := by
  unfold okSeqs
  rw [Bool.not_eq_true', List.any_eq_false]
  intro q hq
  obtain ⟨h1, h2⟩ := h q hq
  have a := itemAt_ge h1
  have b := itemAt_ge h2
  unfold badSeq
  simp
  omega
theorem flows_of {d : DocD} {c : ChorD} (h : ∀ f ∈ c.flows, (∃ x ∈ c.parts, x.id = f.src) ∧ (∃ x ∈ c.parts, x.id = f.dst) ∧ ∃ x ∈ d.msgs, x.id = f.msg) : c.flows.any (badFlow d c) = false := by
  rw [List.any_eq_false]
  intro f hf
  obtain ⟨h1, h2, h3⟩ := h f hf
  have a := partAt_ge h1
  have b := partAt_ge h2
  have e := msgAt_ge h3
  unfold badFlow
  simp
  omega
theorem part_flow : ∀ (d : Nat) (m : MkD) (src : ByteArray), (gpartF d m src).2.flows ≠ []
  | 0, m, src => by
    rw [gpartF_leaf (.inl rfl)]
    unfold gleafF gseqF gtaskF gtaskL
    simp
  | d + 1, m, src => by
    by_cases h1 : pickF m.p m.at_ % 8 < 3 ∨ 9 < m.items.length
    · rw [gpartF_leaf (.inr h1)]
      unfold gleafF gseqF gtaskF gtaskL
      simp
    · by_cases h5 : pickF m.p m.at_ % 8 < 5
      · rw [gpartF_seq h1 h5]
        exact part_flow d _ _
      · rw [gpartF_both h1 h5]
        dsimp only
        have h := part_flow d (gpartF d (gopenF (gnextF m) src (pickF m.p m.at_ % 8)) (gnameF (gnextF m) chG)).2 (gnameF (gnextF m) chG)
        unfold gcloseF
        dsimp only
        split
        · exact h
        · exact h
theorem level_flow (m : MkD) (deep : Nat) : (glevelF m deep).flows ≠ [] := by
  rw [glevel_eq]
  exact part_flow deep _ _
end Go.Proofs.Ytljmghaplnkohaa
