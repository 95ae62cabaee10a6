/- Plain law: which ids are names; generated ids by their numbers. -/
import Derived.Test.YtljmghaplnkohaaIdsA
import Derived.Test.YtljmghaplnkohaaGenP
import Derived.Test.YtljmghaplnkohaaGenM
namespace Go.Proofs.Ytljmghaplnkohaa
open Go.RowKit

theorem bad_ascii {l : List UInt8} (h : ∀ b ∈ l, b.toNat < 128) : ∀ (m k : Nat), l.length - k = m → Nm.badFrom l k = -1
  | 0, k, hm => Nm.badFrom_end (by omega)
  | m + 1, k, hm => by
    have hk : k < l.length := by omega
    have hb : Nm.Bl (l.drop k) 0 < 128 := by
      rw [Nm.Bl_drop]
      unfold Nm.Bl
      rw [Nat.add_zero, List.getD_eq_getElem?_getD, List.getElem?_eq_getElem hk]
      have := h l[k] (List.getElem_mem hk)
      simp only [Option.getD_some]
      omega
    have hg := Nm.getL_ok1 (l := l.drop k) (by unfold Nm.ok1; exact ⟨by rw [List.length_drop]; omega, hb⟩)
    rw [Nm.badFrom_next hk (n := 1) (by omega) hg]
    exact bad_ascii h m (k + 1) (by omega)
/-- Letters a to z, digits behind the first one. -/
theorem name_low {l : List UInt8} (h0 : 0 < l.length) (h60 : l.length ≤ 60) (h1 : ∀ b ∈ l, 97 ≤ b.toNat ∧ b.toNat ≤ 122) : Nm.nameB l = true := by
  have hget : ∀ i, i < l.length → 97 ≤ Nm.Bl l i ∧ Nm.Bl l i ≤ 122 := fun i hi => by
    unfold Nm.Bl
    rw [List.getD_eq_getElem?_getD, List.getElem?_eq_getElem hi]
    have := h1 l[i] (List.getElem_mem hi)
    simp only [Option.getD_some]
    omega
  rw [Nm.nameB_iff]
  refine ⟨h0, h60, ?_, ?_, fun i hi => ?_⟩
  · rw [Nm.startB_iff]; have := hget 0 h0; omega
  · rw [bad_ascii (fun b hb => by have := h1 b hb; omega) _ 0 rfl]; decide
  · rw [Nm.partB_iff]; have := hget i hi; omega
/-- A text of letters a to z. -/
def lowB (s : ByteArray) : Prop := ∀ b ∈ s.data.toList, 97 ≤ b.toNat ∧ b.toNat ≤ 122
theorem isName_low {s : ByteArray} (h0 : 0 < s.size) (h60 : s.size ≤ 60) (h : lowB s) : isName s = true := by
  unfold isName
  exact name_low (by simpa using h0) (by simpa using h60) h
theorem low_append {a b : ByteArray} (ha : lowB a) (hb : lowB b) : lowB (a ++ b) := by
  intro x hx
  rw [ByteArray.data_append, Array.toList_append] at hx
  rcases List.mem_append.1 hx with hx | hx
  · exact ha x hx
  · exact hb x hx
theorem low_two (n : Nat) : lowB ⟨#[UInt8.ofNat (97 + n / 26 % 26), UInt8.ofNat (97 + n % 26)]⟩ := by
  intro x hx
  simp only [List.mem_cons, List.not_mem_nil, or_false] at hx
  rcases hx with rfl | rfl
  · rw [UInt8.toNat_ofNat']; omega
  · rw [UInt8.toNat_ofNat']; omega
theorem low_name {m : MkD} {s : ByteArray} (hp : lowB m.pre) (hs : lowB s) : lowB (gnameF m s) := low_append hp (low_append hs (low_two _))
/-- The number that an id was made by. -/
def numOf (s : ByteArray) : Nat := (s.data.toList.getD (s.size - 2) 0).toNat * 26 + (s.data.toList.getD (s.size - 1) 0).toNat - 97 * 26 - 97
theorem num_name {m : MkD} {s : ByteArray} (hn : m.n + 1 < 676) : numOf (gnameF m s) = m.n + 1 := by
  unfold numOf gnameF idF
  rw [← ByteArray.append_assoc]
  obtain ⟨q, hq⟩ : ∃ q, q = m.pre ++ s := ⟨_, rfl⟩
  rw [← hq]
  have hsz : (q ++ ⟨#[UInt8.ofNat (97 + (m.n + 1) / 26 % 26), UInt8.ofNat (97 + (m.n + 1) % 26)]⟩ : ByteArray).size = q.size + 2 := by rw [ByteArray.size_append]; rfl
  have hql : q.data.toList.length = q.size := by simp
  rw [hsz, ByteArray.data_append, Array.toList_append]
  have e1 : (q.data.toList ++ [UInt8.ofNat (97 + (m.n + 1) / 26 % 26), UInt8.ofNat (97 + (m.n + 1) % 26)]).getD (q.size + 2 - 2) 0 = UInt8.ofNat (97 + (m.n + 1) / 26 % 26) := by
    rw [List.getD_eq_getElem?_getD, List.getElem?_append_right (by omega), hql]
    simp
  have e2 : (q.data.toList ++ [UInt8.ofNat (97 + (m.n + 1) / 26 % 26), UInt8.ofNat (97 + (m.n + 1) % 26)]).getD (q.size + 2 - 1) 0 = UInt8.ofNat (97 + (m.n + 1) % 26) := by
    rw [List.getD_eq_getElem?_getD, List.getElem?_append_right (by omega), hql, show q.size + 2 - 1 - q.size = 1 by omega]
    simp
  show ((q.data.toList ++ [UInt8.ofNat (97 + (m.n + 1) / 26 % 26), UInt8.ofNat (97 + (m.n + 1) % 26)]).getD (q.size + 2 - 2) 0).toNat * 26 + ((q.data.toList ++ [UInt8.ofNat (97 + (m.n + 1) / 26 % 26), UInt8.ofNat (97 + (m.n + 1) % 26)]).getD (q.size + 2 - 1) 0).toNat - 97 * 26 - 97 = _
  rw [e1, e2, UInt8.toNat_ofNat', UInt8.toNat_ofNat']
  omega
/-- How often a number is an id's, of items, message flows, what follows what. -/
def kc (m : MkD) (a : Nat) : Nat := (m.items.map fun x => numOf x.id).count a + (m.flows.map fun x => numOf x.id).count a + (m.seqs.map fun x => numOf x.id).count a
/-- What holds of all ids of a maker: their first bytes, letters, numbers. -/
structure KeyM (m : MkD) : Prop where
  key : ∀ a, kc m a ≤ 1 ∧ (0 < kc m a → 1 ≤ a ∧ a ≤ m.n)
  items : ∀ x ∈ m.items, lowB x.id ∧ x.id.size = m.pre.size + 3 ∧ ∃ r, x.id = m.pre ++ r ∧ r.data.toList.headD 0 ≠ 120
  flows : ∀ x ∈ m.flows, lowB x.id ∧ x.id.size = m.pre.size + 3 ∧ ∃ r, x.id = m.pre ++ r ∧ r.data.toList.headD 0 ≠ 120
  seqs : ∀ x ∈ m.seqs, lowB x.id ∧ x.id.size = m.pre.size + 3 ∧ ∃ r, x.id = m.pre ++ r ∧ r.data.toList.headD 0 ≠ 120
def KeyI (m : MkD) : Prop := m.n ≤ 600 → lowB m.pre → KeyM m
theorem name_fit (m : MkD) (c : UInt8) (hp : lowB m.pre) (hc : 97 ≤ c.toNat ∧ c.toNat < 120) : lowB (gnameF m ⟨#[c]⟩) ∧ (gnameF m ⟨#[c]⟩).size = m.pre.size + 3 ∧ ∃ r, gnameF m ⟨#[c]⟩ = m.pre ++ r ∧ r.data.toList.headD 0 ≠ 120 := by
  refine ⟨low_name hp (fun b hb => ?_), ?_, _, rfl, ?_⟩
  · have : b = c := by simpa using hb
    rw [this]; omega
  · unfold gnameF idF
    rw [ByteArray.size_append, ByteArray.size_append]
    rfl
  · unfold idF
    rw [ByteArray.data_append, Array.toList_append]
    show c ≠ 120
    intro e
    rw [e] at hc
    exact absurd hc.2 (by decide)
theorem count_snoc (l : List Nat) (b a : Nat) : (l ++ [b]).count a = l.count a + if b = a then 1 else 0 := by
  rw [List.count_append, List.count_cons, List.count_nil]
  simp only [beq_iff_eq, Nat.zero_add]
theorem key_item {m : MkD} (h : KeyI m) (x : ItemD) (c : UInt8) (hc : 97 ≤ c.toNat ∧ c.toNat < 120) (hx : x.id = gnameF m ⟨#[c]⟩) : KeyI (gitemF (gnamedF m) x) := by
  intro hn hp
  have hn' : m.n + 1 ≤ 600 := hn
  have hp' : lowB m.pre := hp
  have k := h (by omega) hp'
  have hnum : numOf x.id = m.n + 1 := by rw [hx]; exact num_name (by omega)
  refine ⟨fun a => ?_, fun y hy => ?_, k.flows, k.seqs⟩
  · have ka := k.key a
    have e : kc (gitemF (gnamedF m) x) a = kc m a + if m.n + 1 = a then 1 else 0 := by
      unfold kc gitemF gnamedF
      simp only [List.map_append, List.map_cons, List.map_nil]
      rw [count_snoc, hnum]
      omega
    rw [e]
    show _ ∧ (_ → 1 ≤ a ∧ a ≤ m.n + 1)
    split <;> omega
  · have hy' : y ∈ m.items ++ [x] := hy
    rcases List.mem_append.1 hy' with hy' | hy'
    · exact k.items y hy'
    · rw [List.mem_singleton.1 hy', hx]; exact name_fit m c hp' hc
theorem key_seq {m : MkD} (h : KeyI m) (a b : ByteArray) : KeyI (gseqF m a b) := by
  intro hn hp
  have hn' : m.n + 1 ≤ 600 := hn
  have hp' : lowB m.pre := hp
  have k := h (by omega) hp'
  have hnum : numOf (gnameF m chS) = m.n + 1 := num_name (by omega)
  refine ⟨fun v => ?_, k.items, k.flows, fun y hy => ?_⟩
  · have ka := k.key v
    have e : kc (gseqF m a b) v = kc m v + if m.n + 1 = v then 1 else 0 := by
      unfold kc gseqF
      simp only [List.map_append, List.map_cons, List.map_nil]
      rw [count_snoc, hnum]
      omega
    rw [e]
    show _ ∧ (_ → 1 ≤ v ∧ v ≤ m.n + 1)
    split <;> omega
  · have hy' : y ∈ m.seqs ++ [⟨gnameF m chS, a, b⟩] := hy
    rcases List.mem_append.1 hy' with hy' | hy'
    · exact k.seqs y hy'
    · rw [List.mem_singleton.1 hy']; exact name_fit m 115 hp' (by decide)
theorem key_task {m : MkD} (h : KeyI m) (x : Nat) : KeyI (gtaskF m x) := by
  intro hn hp
  have hp' : lowB m.pre := hp
  have e1 : ∀ k, numOf (gnameF m k) = m.n + 1 ∨ 675 ≤ m.n := fun k => by
    rcases Nat.lt_or_ge (m.n + 1) 676 with h1 | h1
    · exact .inl (num_name h1)
    · exact .inr (by omega)
  have hnx : (gtaskF m x).n = m.n + (if gback x then 3 else 2) := rfl
  rw [hnx] at hn
  have hn2 : m.n + 2 ≤ 600 := by split at hn <;> omega
  have k := h (by omega) hp'
  have n1 : numOf (gnameF m chT) = m.n + 1 := num_name (by omega)
  have n2 : numOf (gnameF (gnamedF m) chF) = m.n + 1 + 1 := num_name (by show m.n + 1 + 1 < 676; omega)
  have n3 : numOf (gnameF (gnamedF (gnamedF m)) chF) = m.n + 1 + 1 + 1 := num_name (by show m.n + 1 + 1 + 1 < 676; omega)
  refine ⟨fun a => ?_, fun y hy => ?_, fun y hy => ?_, k.seqs⟩
  · have ka := k.key a
    show _ ∧ (_ → 1 ≤ a ∧ a ≤ m.n + (if gback x then 3 else 2))
    have e : kc (gtaskF m x) a = kc m a + (if m.n + 1 = a then 1 else 0) + (if m.n + 1 + 1 = a then 1 else 0) + (if gback x = true then (if m.n + 1 + 1 + 1 = a then 1 else 0) else 0) := by
      unfold kc gtaskF gtaskL
      simp only [List.map_append, List.map_cons, List.map_nil]
      rw [count_snoc]
      cases hb : gback x
      · simp only [Bool.false_eq_true, if_false, List.map_nil, List.count_append, List.count_cons, List.count_nil, beq_iff_eq, Nat.zero_add]
        rw [n2, show numOf (gtaskI m x).id = m.n + 1 from n1]
        omega
      · simp only [if_true, List.map_cons, List.map_nil, List.count_append, List.count_cons, List.count_nil, beq_iff_eq, Nat.zero_add]
        rw [n2, n3, show numOf (gtaskI m x).id = m.n + 1 from n1]
        omega
    rw [e]
    cases gback x
    · simp only [Bool.false_eq_true, if_false]
      split <;> split <;> omega
    · simp only [if_true]
      split <;> split <;> split <;> omega
  · have hy' : y ∈ m.items ++ [gtaskI m x] := hy
    rcases List.mem_append.1 hy' with hy' | hy'
    · exact k.items y hy'
    · rw [List.mem_singleton.1 hy']; exact name_fit m 116 hp' (by decide)
  · have hy' : y ∈ m.flows ++ gtaskL m x := hy
    rcases List.mem_append.1 hy' with hy' | hy'
    · exact k.flows y hy'
    · have h1 := name_fit (gnamedF m) 102 hp' (by decide)
      have h2 := name_fit (gnamedF (gnamedF m)) 102 hp' (by decide)
      unfold gtaskL at hy'
      cases hb : gback x <;> rw [hb] at hy' <;> simp at hy'
      · rw [hy']; exact h1
      · rcases hy' with hy' | hy' <;> rw [hy']
        · exact h1
        · exact h2
theorem key_inv : GenInv KeyI where
  next m h := fun hn hp => ⟨(h hn hp).key, (h hn hp).items, (h hn hp).flows, (h hn hp).seqs⟩
  item m k _ h := key_item h _ 103 (by decide) rfl
  seq m a b _ _ h := key_seq h a b
  task m x h := key_task h x
theorem key_level {m : MkD} (h : KeyI m) (deep : Nat) : KeyI (glevelF m deep) := by
  have b := body_ok key_inv (m := m) deep (key_item h _ 98 (by decide) rfl)
  rw [glevel_eq]
  exact key_seq (key_item b.inv _ 101 (by decide) rfl) _ _
theorem key_none {m : MkD} (h1 : m.items = []) (h2 : m.flows = []) (h3 : m.seqs = []) : KeyI m := by
  intro _ _
  refine ⟨fun a => ?_, fun x hx => ?_, fun x hx => ?_, fun x hx => ?_⟩
  · unfold kc
    rw [h1, h2, h3]
    simp
  · rw [h1] at hx; cases hx
  · rw [h2] at hx; cases hx
  · rw [h3] at hx; cases hx
theorem low_y : lowB ⟨#[121]⟩ := by
  intro b hb
  have : b = 121 := by simpa using hb
  rw [this]
  decide
theorem low_x : lowB ⟨#[120]⟩ := by
  intro b hb
  have : b = 120 := by simpa using hb
  rw [this]
  decide
theorem low_nil : lowB ⟨#[]⟩ := by
  intro b hb
  simp at hb
theorem grow_levelI (m : MkD) (deep : Nat) : GrowM (gG deep + 6) m (glevelF m deep) := by
  have h1 : GrowM 2 m (gstartF m) := (grow_named m).trans (grow_item _ _)
  have h2 := grow_part deep (gstartF m) (gnameF m chB_)
  have h3 : GrowM 3 (gbodyF m deep).2 (glevelF m deep) := ((grow_named _).trans (grow_item _ _)).trans (grow_seq _ _ _)
  exact ((h1.trans h2).trans h3).mono (by omega)
theorem key_make (p : List Int) (pre : ByteArray) (hp : lowB pre) : KeyM (gmakeF p pre) ∧ (gmakeF p pre).n ≤ 109 ∧ (gmakeF p pre).pre = pre := by
  have hg := grow_levelI (gbeginF p (2 + pickF p 0 % 16 % 3) pre) 3
  have hG : gG 3 = 103 := rfl
  have hn : (gmakeF p pre).n ≤ 0 + (gG 3 + 6) := hg.n
  rw [hG] at hn
  have hpre : (gmakeF p pre).pre = pre := hg.pre
  exact ⟨key_level (key_none rfl rfl rfl) 3 (show (gmakeF p pre).n ≤ 600 by omega) (show lowB (gmakeF p pre).pre by rw [hpre]; exact hp), by omega, hpre⟩
theorem key_in (q : List Int) (parts : List PartD) : KeyM (ginF q parts) ∧ (ginF q parts).n ≤ 25 ∧ (ginF q parts).pre = ⟨#[121]⟩ := by
  have gm := grow_levelI ⟨q, 5, 0, parts, [], [], [], ⟨#[121]⟩⟩ 1
  have hG : gG 1 = 19 := rfl
  have hn : (ginF q parts).n ≤ 0 + (gG 1 + 6) := gm.n
  rw [hG] at hn
  have hpre : (ginF q parts).pre = ⟨#[121]⟩ := gm.pre
  exact ⟨key_level (key_none rfl rfl rfl) 1 (show (ginF q parts).n ≤ 600 by omega) (show lowB (ginF q parts).pre by rw [hpre]; exact low_y), by omega, hpre⟩
end Go.Proofs.Ytljmghaplnkohaa
