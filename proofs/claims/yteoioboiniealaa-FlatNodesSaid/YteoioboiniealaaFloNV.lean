/- Plain law of FlatNodes: the graph that flat makes has the nodes and edges that the law wants, Plain law: numbers of generated ids, Plain law of FlatNodes: the nested document, inlined: its graph's nodes and edges, The contract of SameTexts on what is the same, FlatNodes: what its walk knows: the node that is wanted, step by step; names and messages so far, in memory, joined. -/
import Derived.Test.YteoioboiniealaaFloAC
import Derived.Lib.Bytes
import Derived.Test.YteoioboiniealaaGenP
import Derived.Test.YteoioboiniealaaGenQ
import Derived.Test.YteoioboiniealaaFlaQ
import Derived.Test.YteoioboiniealaaInlT
import Derived.Test.YteoioboiniealaaReg
import Derived.Test.YteoioboiniealaaBlk
import Derived.Test.YteoioboiniealaaGenB
import Derived.Deep.QuietTactic
import Derived.Deep.DeepCutAuto
import Derived.Deep.CutBlock
import Derived.Test.YteoioboiniealaaFlaG
namespace Go.Proofs.Yteoioboiniealaa
open Go.RowKit

def addM (ms : List ByteArray) (m : ByteArray) : List ByteArray := if placeF ms m < 0 then ms ++ [m] else ms
/-- A node, by what the law wants of it; the messages so far. -/
def nodeOf (ps : List ByteArray) (fl : List FlowD) (x : ItemD) (ms : List ByteArray) : NodeD × List ByteArray :=
  if x.kind = 3 then
    match x.flows with
    | [] => (⟨3, x.id, 0, 0, 0, -1, x.loop⟩, ms)
    | [f] => (⟨3, x.id, placeF ps (lflowF f fl).src, placeF ps (lflowF f fl).dst, placeF (addM ms (lflowF f fl).msg) (lflowF f fl).msg, -1, x.loop⟩, addM ms (lflowF f fl).msg)
    | f :: g :: _ => (⟨3, x.id, placeF ps (lflowF f fl).src, placeF ps (lflowF f fl).dst, placeF (addM ms (lflowF f fl).msg) (lflowF f fl).msg, placeF (addM (addM ms (lflowF f fl).msg) (lflowF g fl).msg) (lflowF g fl).msg, x.loop⟩, addM (addM ms (lflowF f fl).msg) (lflowF g fl).msg)
  else (⟨x.kind, x.id, -1, -1, -1, -1, false⟩, ms)
def nodesOf (ps : List ByteArray) (fl : List FlowD) : List ItemD → List ByteArray → List NodeD × List ByteArray
  | [], ms => ([], ms)
  | x :: l, ms => ((nodeOf ps fl x ms).1 :: (nodesOf ps fl l (nodeOf ps fl x ms).2).1, (nodesOf ps fl l (nodeOf ps fl x ms).2).2)
theorem nodesOf_append (ps : List ByteArray) (fl : List FlowD) : ∀ (a b : List ItemD) (ms : List ByteArray), nodesOf ps fl (a ++ b) ms = ((nodesOf ps fl a ms).1 ++ (nodesOf ps fl b (nodesOf ps fl a ms).2).1, (nodesOf ps fl b (nodesOf ps fl a ms).2).2)
  | [], b, ms => by simp [nodesOf]
  | x :: a, b, ms => by
    rw [List.cons_append, nodesOf, nodesOf, nodesOf_append ps fl a b]
    rfl
theorem nodesOf_one (ps : List ByteArray) (fl : List FlowD) (x : ItemD) (ms : List ByteArray) : nodesOf ps fl [x] ms = ([(nodeOf ps fl x ms).1], (nodeOf ps fl x ms).2) := rfl
theorem nodesOf_len (ps : List ByteArray) (fl : List FlowD) : ∀ (l : List ItemD) (ms : List ByteArray), (nodesOf ps fl l ms).1.length = l.length
  | [], _ => rfl
  | x :: l, ms => by rw [nodesOf, List.length_cons, nodesOf_len ps fl l, List.length_cons]
theorem nodeOf_id (ps : List ByteArray) (fl : List FlowD) (x : ItemD) (ms : List ByteArray) : (nodeOf ps fl x ms).1.id = x.id := by
  unfold nodeOf
  split
  · split <;> rfl
  · rfl
theorem nodesOf_ids (ps : List ByteArray) (fl : List FlowD) : ∀ (l : List ItemD) (ms : List ByteArray), (nodesOf ps fl l ms).1.map (·.id) = l.map (·.id)
  | [], _ => rfl
  | x :: l, ms => by rw [nodesOf, List.map_cons, List.map_cons, nodesOf_ids ps fl l, nodeOf_id]
theorem nodesOf_at (ps : List ByteArray) (fl : List FlowD) {l : List ItemD} (ms : List ByteArray) {i : Nat} (hi : i < l.length) : (nodesOf ps fl l ms).1[i]? = some (nodeOf ps fl l[i] (nodesOf ps fl (l.take i) ms).2).1 ∧ (nodesOf ps fl (l.take (i + 1)) ms).2 = (nodeOf ps fl l[i] (nodesOf ps fl (l.take i) ms).2).2 := by
  refine ⟨?_, ?_⟩
  · conv => lhs; rw [← List.take_append_drop i l, List.drop_eq_getElem_cons hi, nodesOf_append]
    rw [List.getElem?_append_right (by rw [nodesOf_len, List.length_take]; omega), nodesOf_len, List.length_take, nodesOf, show i - min i l.length = 0 by omega]
    rfl
  · rw [List.take_succ_eq_append_getElem hi, nodesOf_append]
    rfl
/-! Places. -/
theorem find_none_iff {p : ByteArray → Bool} : ∀ (l : List ByteArray) (k : Nat), findFrom p l k < 0 ↔ ∀ x ∈ l, p x = false
  | [], k => by simp [findFrom]
  | x :: l, k => by
    rw [findFrom]
    split
    · rename_i h
      constructor
      · intro h2; omega
      · intro h2; rw [h2 x (List.mem_cons_self ..)] at h; cases h
    · rename_i h
      rw [find_none_iff l (k + 1)]
      constructor
      · intro h2 y hy
        rcases List.mem_cons.1 hy with rfl | hy
        · simpa using h
        · exact h2 y hy
      · intro h2 y hy; exact h2 y (List.mem_cons_of_mem _ hy)
theorem find_snoc {p : ByteArray → Bool} {m : ByteArray} (hm : p m = true) : ∀ (l : List ByteArray) (k : Nat), (∀ x ∈ l, p x = false) → findFrom p (l ++ [m]) k = ((k + l.length : Nat) : Int)
  | [], k, _ => by rw [List.nil_append, findFrom, if_pos hm]; simp
  | x :: l, k, h => by
    rw [List.cons_append, findFrom, if_neg (by rw [h x (List.mem_cons_self ..)]; decide), find_snoc hm l (k + 1) (fun y hy => h y (List.mem_cons_of_mem _ hy)), List.length_cons]
    congr 1
    omega
theorem eqS_rfl (a : ByteArray) : eqS a a = true := by simp [eqS]
theorem eqS_eq {a b : ByteArray} (h : eqS a b = true) : a = b := by
  have h1 : a.toList = b.toList := by simpa [eqS] using h
  have h1 : a.data.toList = b.data.toList := by rw [Lib.toList_data, Lib.toList_data] at h1; exact h1
  have h2 : a.data = b.data := Array.toList_inj.1 h1
  obtain ⟨x⟩ := a
  obtain ⟨y⟩ := b
  simp only at h2
  rw [h2]
theorem msg_add (s : FS) (m : ByteArray) : msgF s m = (placeF (addM s.msgs m) m, ⟨addM s.msgs m, s.nodes, s.edges, s.e⟩) := by
  unfold msgF addM
  split
  · rename_i h
    have h2 := (find_none_iff s.msgs 0).1 h
    rw [show placeF (s.msgs ++ [m]) m = ((0 + s.msgs.length : Nat) : Int) from find_snoc (p := fun x => eqS x m) (eqS_rfl m) s.msgs 0 h2, Nat.zero_add]
  · rfl
/-- By ids that are no two the same each is found at its place. -/
theorem place_at : ∀ {l : List ByteArray} {i : Nat} (k : Nat) {a : ByteArray}, l[i]? = some a → l.Nodup → findFrom (eqS · a) l k = ((k + i : Nat) : Int)
  | [], i, k, a, h, _ => by simp at h
  | x :: l, 0, k, a, h, _ => by
    have : x = a := by simpa using h
    subst this
    rw [findFrom, if_pos (eqS_rfl x), Nat.add_zero]
  | x :: l, i + 1, k, a, h, hn => by
    have hn' := List.nodup_cons.1 hn
    have h' : l[i]? = some a := by simpa using h
    have hm : a ∈ l := List.mem_of_getElem? h'
    rw [findFrom, if_neg (fun e => hn'.1 (by rw [eqS_eq e]; exact hm)), place_at (k + 1) h' hn'.2]
    congr 1
    omega
theorem flow_found {fl : List FlowD} {f : ByteArray} : ∀ {l : List FlowD} (k : Nat), (∃ y ∈ l, y.id = f) → ∃ i : Nat, findFrom (fun x : FlowD => eqS x.id f) l k = ((k + i : Nat) : Int) ∧ l[i]? = some (lflowF f l)
  | [], k, h => by obtain ⟨y, hy, _⟩ := h; cases hy
  | x :: l, k, h => by
    rw [findFrom, lflowF]
    by_cases hx : eqS x.id f = true
    · rw [if_pos hx, if_pos hx]
      exact ⟨0, rfl, rfl⟩
    · rw [if_neg hx, if_neg hx]
      obtain ⟨y, hy, e⟩ := h
      rcases List.mem_cons.1 hy with rfl | hy
      · exact absurd (by rw [e]; exact eqS_rfl f) hx
      · obtain ⟨i, h1, h2⟩ := flow_found (fl := fl) (k + 1) ⟨y, hy, e⟩
        exact ⟨i + 1, by rw [h1]; congr 1; omega, by simpa using h2⟩
/-- A task that keeps to the rules. -/
structure TaskN (ps : List ByteArray) (fl : List FlowD) (x : ItemD) : Prop where
  len : 1 ≤ x.flows.length ∧ x.flows.length ≤ 2
  has : ∀ f ∈ x.flows, ∃ y ∈ fl, y.id = f
  src : 0 ≤ placeF ps (lflowF (x.flows.headD ⟨#[]⟩) fl).src
  dst : 0 ≤ placeF ps (lflowF (x.flows.headD ⟨#[]⟩) fl).dst
  ne : placeF ps (lflowF (x.flows.headD ⟨#[]⟩) fl).src ≠ placeF ps (lflowF (x.flows.headD ⟨#[]⟩) fl).dst
theorem taskG_step {ps : List ByteArray} {fl : List FlowD} {f : ByteArray} {l : List ByteArray} {k : Nat} {n : NodeD} {s : FS} (h : ∃ y ∈ fl, y.id = f) (hk : k ≤ 1) : taskG ps fl (f :: l) k n s =
    if k = 1 then taskG ps fl l (k + 1) ⟨n.kind, n.id, n.src, n.dst, n.msg, (msgF s (lflowF f fl).msg).1, n.loop⟩ (msgF s (lflowF f fl).msg).2
    else taskG ps fl l (k + 1) ⟨n.kind, n.id, placeF ps (lflowF f fl).src, placeF ps (lflowF f fl).dst, (msgF s (lflowF f fl).msg).1, n.reply, n.loop⟩ (msgF s (lflowF f fl).msg).2 := by
  obtain ⟨i, h1, h2⟩ := flow_found (fl := fl) 0 h
  rw [Nat.zero_add] at h1
  rw [taskG, h1, if_neg (by omega), Int.toNat_natCast, h2]
theorem task_ok {ps : List ByteArray} {fl : List FlowD} {x : ItemD} (h : TaskN ps fl x) (h3 : x.kind = 3) (s : FS) : taskF ps fl x s = ((s.nodes.length : Int), ⟨(nodeOf ps fl x s.msgs).2, s.nodes ++ [(nodeOf ps fl x s.msgs).1], s.edges, s.e⟩) := by
  obtain ⟨hl, hh, h4, h5, h6⟩ := h
  unfold taskF taskE nodeOf
  rw [if_pos h3]
  match hq : x.flows with
  | [] => rw [hq] at hl; simp at hl
  | [f] =>
    rw [hq] at hh h4 h5 h6
    simp only [List.headD_cons] at h4 h5 h6
    rw [taskG_step (hh f (by simp)) (by decide), if_neg (show ¬ (0 : Nat) = 1 by decide), taskG, msg_add]
    simp only [taskN]
    rw [if_neg (by rintro ⟨_, h | h | h⟩ <;> omega)]
    rfl
  | [f, g] =>
    rw [hq] at hh h4 h5 h6
    simp only [List.headD_cons] at h4 h5 h6
    rw [taskG_step (hh f (by simp)) (by decide), if_neg (show ¬ (0 : Nat) = 1 by decide), taskG_step (hh g (by simp)) (by decide), if_pos (show 0 + 1 = 1 from rfl), taskG, msg_add, msg_add]
    simp only [taskN]
    rw [if_neg (by rintro ⟨_, h | h | h⟩ <;> omega)]
    rfl
  | _ :: _ :: _ :: _ => rw [hq] at hl; simp at hl
/-! What lies where. -/
def IdAt (nodes : List NodeD) (n : Int) (a : ByteArray) : Prop := 0 ≤ n ∧ (nodes.map (·.id))[n.toNat]? = some a
theorem IdAt.more {nodes : List NodeD} {n : Int} {a : ByteArray} (h : IdAt nodes n a) (m : List NodeD) : IdAt (nodes ++ m) n a := by
  refine ⟨h.1, ?_⟩
  rw [List.map_append, List.getElem?_append_left (List.getElem?_eq_some_iff.1 h.2).1]
  exact h.2
theorem IdAt.last (nodes : List NodeD) (x : NodeD) : IdAt (nodes ++ [x]) (nodes.length : Int) x.id := by
  refine ⟨by omega, ?_⟩
  simp
def inId (x : ItemD) : ByteArray := if x.kind = 7 then sideIn true ⟨#[]⟩ x.items else x.id
def outId (x : ItemD) : ByteArray := if x.kind = 7 then sideIn false ⟨#[]⟩ x.items else x.id
def AtR (nodes : List NodeD) (r : Int × Int) (x : ItemD) : Prop := IdAt nodes r.1 (inId x) ∧ IdAt nodes r.2 (outId x)
def EdgR (nodes : List NodeD) (r : Int × Int) (x : ByteArray × ByteArray) : Prop := IdAt nodes r.1 x.1 ∧ IdAt nodes r.2 x.2
/-- Of two lists, one by one. -/
def All2 {α β : Type} (R : α → β → Prop) : List α → List β → Prop
  | [], [] => True
  | a :: l, b :: m => R a b ∧ All2 R l m
  | _, _ => False
section
variable {α β : Type} {R S : α → β → Prop}
theorem All2.len : ∀ {l : List α} {m : List β}, All2 R l m → l.length = m.length
  | [], [], _ => rfl
  | _ :: l, _ :: m, h => by rw [List.length_cons, List.length_cons, All2.len h.2]
theorem All2.mono (hm : ∀ a b, R a b → S a b) : ∀ {l : List α} {m : List β}, All2 R l m → All2 S l m
  | [], [], _ => trivial
  | _ :: _, _ :: _, h => ⟨hm _ _ h.1, All2.mono hm h.2⟩
theorem All2.append : ∀ {l l' : List α} {m m' : List β}, All2 R l m → All2 R l' m' → All2 R (l ++ l') (m ++ m')
  | [], _, [], _, _, h => h
  | _ :: _, _, _ :: _, _, h, k => ⟨h.1, All2.append h.2 k⟩
theorem All2.at_ : ∀ {l : List α} {m : List β} (i : Nat) {b : β}, All2 R l m → m[i]? = some b → ∃ a, l[i]? = some a ∧ R a b
  | [], [], i, b, _, h => by simp at h
  | a :: l, b' :: m, 0, b, h, hb => by
    have : b' = b := by simpa using hb
    subst this
    exact ⟨a, rfl, h.1⟩
  | a :: l, b' :: m, i + 1, b, h, hb => by
    obtain ⟨x, h1, h2⟩ := All2.at_ i h.2 (by simpa using hb)
    exact ⟨x, by simpa using h1, h2⟩
end
def kindC (k : Int) (l : List ItemD) : Nat := (l.filter (fun x => x.kind == k)).length
theorem kindC_cons (k : Int) (x : ItemD) (l : List ItemD) : kindC k (x :: l) = (if x.kind = k then 1 else 0) + kindC k l := by
  unfold kindC
  rw [List.filter_cons]
  by_cases h : x.kind = k
  · rw [if_pos (by simp [h]), if_pos h, List.length_cons, Nat.add_comm]
  · rw [if_neg (by simp [h]), if_neg h, Nat.zero_add]
/-- One start, one end. -/
def OneSE (l : List ItemD) : Prop := kindC 1 l = 1 ∧ kindC 2 l = 1
def sideKk (ins : Bool) : Int := if ins = true then 1 else 2
theorem sideK_iff (ins : Bool) (k : Int) : sideK ins k = true ↔ k = sideKk ins := by
  unfold sideK sideKk
  cases ins <;> simp
/-- What is there does not hang on what would be taken else. -/
theorem sideIn_has (ins : Bool) (r1 r2 : ByteArray) : ∀ {l : List ItemD}, 0 < kindC (sideKk ins) l → sideIn ins r1 l = sideIn ins r2 l
  | [], h => by unfold kindC at h; simp at h
  | y :: l, h => by
    rw [sideIn, sideIn]
    by_cases hk : sideK ins y.kind = true
    · rw [if_pos hk, if_pos hk]
    · rw [if_neg hk, if_neg hk]
      refine sideIn_has ins r1 r2 ?_
      rw [kindC_cons, if_neg (fun e => hk ((sideK_iff _ _).2 e)), Nat.zero_add] at h
      exact h
theorem side_at (s : ByteArray) (ins : Bool) : ∀ {l : List ItemD} (k : Nat), (∃ x ∈ l, x.id = s) → (∀ x ∈ l, x.kind = 7 → OneSE x.items) → ∃ i : Nat, findFrom (fun x : ItemD => eqS x.id s) l k = ((k + i : Nat) : Int) ∧ ∃ x, l[i]? = some x ∧ x.id = s ∧ sideF s ins l = (if ins = true then inId x else outId x)
  | [], k, h, _ => by obtain ⟨y, hy, _⟩ := h; cases hy
  | x :: l, k, h, h7 => by
    rw [findFrom, sideF]
    by_cases hx : eqS x.id s = true
    · have hs := eqS_eq hx
      rw [if_pos hx, if_neg (by rw [hx]; decide)]
      refine ⟨0, rfl, x, rfl, hs, ?_⟩
      unfold inId outId
      by_cases hk : x.kind = 7
      · obtain ⟨h1, h2⟩ := h7 x (List.mem_cons_self ..) hk
        rw [if_pos hk, if_pos hk, if_pos hk]
        cases ins
        · rw [if_neg (by decide)]
          exact sideIn_has false _ _ (by show 0 < kindC 2 x.items; omega)
        · rw [if_pos rfl]
          exact sideIn_has true _ _ (by show 0 < kindC 1 x.items; omega)
      · rw [if_neg hk, if_neg hk, if_neg hk, ite_self]
        exact hs.symm
    · have hx2 : eqS x.id s = false := by simpa using hx
      rw [if_neg hx, if_pos hx2]
      obtain ⟨y, hy, e⟩ := h
      rcases List.mem_cons.1 hy with rfl | hy
      · exact absurd (by rw [e]; exact eqS_rfl s) hx
      · obtain ⟨i, h1, z, h2, h3, h4⟩ := side_at s ins (k + 1) ⟨y, hy, e⟩ (fun w hw => h7 w (List.mem_cons_of_mem _ hw))
        exact ⟨i + 1, by rw [h1]; congr 1; omega, z, by simpa using h2, h3, h4⟩
/-! A level. -/
/-- What a level comes to, from a state on. -/
structure LevS (ps : List ByteArray) (fl : List FlowD) (L : List ItemD) (Es : List (ByteArray × ByteArray)) (s s' : FS) : Prop where
  msgs : s'.msgs = (nodesOf ps fl L s.msgs).2
  nodes : s'.nodes = s.nodes ++ (nodesOf ps fl L s.msgs).1
  edges : ∃ E, s'.edges = s.edges ++ E ∧ All2 (EdgR s'.nodes) E Es
  e : s'.e = s.e
theorem LevS.trans {ps : List ByteArray} {fl : List FlowD} {L L' : List ItemD} {Es Es' : List (ByteArray × ByteArray)} {s s' s2 : FS} (h : LevS ps fl L Es s s') (k : LevS ps fl L' Es' s' s2) : LevS ps fl (L ++ L') (Es ++ Es') s s2 := by
  obtain ⟨E, h1, h2⟩ := h.edges
  obtain ⟨E', k1, k2⟩ := k.edges
  refine ⟨?_, ?_, ⟨E ++ E', by rw [k1, h1, List.append_assoc], All2.append (All2.mono (fun a b hab => ?_) h2) k2⟩, k.e.trans h.e⟩
  · rw [nodesOf_append, k.msgs, h.msgs]
  · rw [nodesOf_append, k.nodes, h.nodes, h.msgs, List.append_assoc]
  · rw [k.nodes]
    exact ⟨hab.1.more _, hab.2.more _⟩
def LvlN (ps : List ByteArray) (fl : List FlowD) : Nat → List ItemD → List SeqD → Prop
  | 0, _, _ => False
  | f + 1, l, sq => (∀ x ∈ l, x.kind = 3 → TaskN ps fl x) ∧ (∀ x ∈ l, x.kind = 7 → LvlN ps fl f x.items x.seqs ∧ OneSE x.items) ∧ (∀ x ∈ l, x.kind ≠ 7 → x.items = [] ∧ x.seqs = []) ∧ ∀ q ∈ sq, (∃ x ∈ l, x.id = q.src) ∧ ∃ x ∈ l, x.id = q.dst
/-- A level's result: where it begins, and ends. -/
def OutR (l : List ItemD) (nodes : List NodeD) (out out' : Int × Int) : Prop :=
  (kindC 1 l = 0 → out'.1 = out.1) ∧ (kindC 1 l = 1 → IdAt nodes out'.1 (sideIn true ⟨#[]⟩ l)) ∧ (kindC 2 l = 0 → out'.2 = out.2) ∧ (kindC 2 l = 1 → IdAt nodes out'.2 (sideIn false ⟨#[]⟩ l))
section
variable {ps : List ByteArray} {fl : List FlowD} {rec : List ItemD → List SeqD → FS → Option ((Int × Int) × FS)}
theorem node_ok (within : Bool) (x : ItemD) (K : Int) (hK : K = nodeK within x.kind) (hn : nodeK within x.kind ≠ 3) (h7 : x.kind ≠ 7) (s : FS) : LevS ps fl (levI within x) [] s (addNode s (plainN K x)).2 ∧ AtR (addNode s (plainN K x)).2.nodes ((addNode s (plainN K x)).1, (addNode s (plainN K x)).1) x := by
  subst hK
  have hl : levI within x = [withK x (nodeK within x.kind)] := by rw [levI_eq, if_neg h7]
  have hno : ∀ ms, nodeOf ps fl (withK x (nodeK within x.kind)) ms = (plainN (nodeK within x.kind) x, ms) := fun ms => by
    unfold nodeOf
    rw [if_neg (show ¬ (withK x (nodeK within x.kind)).kind = 3 from hn)]
    rfl
  have hid : IdAt (addNode s (plainN (nodeK within x.kind) x)).2.nodes (addNode s (plainN (nodeK within x.kind) x)).1 x.id := IdAt.last s.nodes (plainN (nodeK within x.kind) x)
  refine ⟨⟨?_, ?_, ⟨[], (List.append_nil _).symm, trivial⟩, rfl⟩, ?_, ?_⟩
  · rw [hl, nodesOf_one, hno]; rfl
  · rw [hl, nodesOf_one, hno]; rfl
  · show IdAt _ _ (inId x); unfold inId; rw [if_neg h7]; exact hid
  · show IdAt _ _ (outId x); unfold outId; rw [if_neg h7]; exact hid
theorem withK_self (x : ItemD) : withK x x.kind = x := by cases x; rfl
theorem item_ok (within : Bool) (x : ItemD) (h3 : x.kind = 3 → TaskN ps fl x) (h7 : x.kind = 7 → ∀ s, ∃ r s', rec x.items x.seqs s = some (r, s') ∧ LevS ps fl (levL true x.items) (edgL x.items x.seqs) s s' ∧ AtR s'.nodes r x) (hnil : x.kind ≠ 7 → edgL x.items x.seqs = []) (s : FS) :
    ∃ r s', fitemG rec ps fl within s x = some (r, s') ∧ LevS ps fl (levI within x) (edgI x) s s' ∧ AtR s'.nodes r x := by
  rw [edgI_eq]
  unfold fitemG
  by_cases k3 : x.kind = 3
  · have h7n : x.kind ≠ 7 := by omega
    rw [if_pos k3, task_ok (h3 k3) k3]
    have hK : nodeK within x.kind = x.kind := by unfold nodeK; rw [if_neg (by rintro ⟨_, h | h⟩ <;> omega)]
    have hl : levI within x = [x] := by rw [levI_eq, if_neg h7n, hK, withK_self]
    have hid : IdAt (s.nodes ++ [(nodeOf ps fl x s.msgs).1]) (s.nodes.length : Int) x.id := by
      have := IdAt.last s.nodes (nodeOf ps fl x s.msgs).1
      rwa [nodeOf_id] at this
    refine ⟨_, _, rfl, ⟨?_, ?_, ⟨[], (List.append_nil _).symm, by rw [hnil h7n]; trivial⟩, rfl⟩, ?_, ?_⟩
    · rw [hl, nodesOf_one]
    · rw [hl, nodesOf_one]
    · show IdAt _ _ (inId x); unfold inId; rw [if_neg h7n]; exact hid
    · show IdAt _ _ (outId x); unfold outId; rw [if_neg h7n]; exact hid
  · rw [if_neg k3]
    by_cases k7 : x.kind = 7
    · rw [if_pos k7]
      obtain ⟨r, s', h1, h2, h4⟩ := h7 k7 s
      exact ⟨r, s', h1, by rw [levI_eq, if_pos k7]; exact h2, h4⟩
    · rw [if_neg k7, hnil k7]
      by_cases kw : within = true ∧ (x.kind = 1 ∨ x.kind = 2)
      · rw [if_pos kw]
        have hK : nodeK within x.kind = 4 := by unfold nodeK; rw [if_pos kw]
        obtain ⟨a, b⟩ := node_ok (ps := ps) (fl := fl) within x 4 hK.symm (by rw [hK]; decide) k7 s
        exact ⟨_, _, rfl, a, b⟩
      · rw [if_neg kw]
        have hK : nodeK within x.kind = x.kind := by unfold nodeK; rw [if_neg kw]
        obtain ⟨a, b⟩ := node_ok (ps := ps) (fl := fl) within x x.kind hK.symm (by rw [hK]; exact k3) k7 s
        exact ⟨_, _, rfl, a, b⟩
theorem lev1_ok (within : Bool) : ∀ (l : List ItemD) (ats : List (Int × Int)) (out : Int × Int) (s : FS), (∀ x ∈ l, ∀ s, ∃ r s', fitemG rec ps fl within s x = some (r, s') ∧ LevS ps fl (levI within x) (edgI x) s s' ∧ AtR s'.nodes r x) →
    ∃ a2 out' s', flev1 (fitemG rec ps fl within) l ats out s = some (ats ++ a2, out', s') ∧ LevS ps fl (levL within l) (edgIs l) s s' ∧ All2 (AtR s'.nodes) a2 l ∧ OutR l s'.nodes out out'
  | [], ats, out, s, _ => ⟨[], out, s, by rw [flev1, List.append_nil], ⟨rfl, by rw [levL]; exact (List.append_nil _).symm, ⟨[], (List.append_nil _).symm, trivial⟩, rfl⟩, trivial, fun _ => rfl, fun h => by simp [kindC] at h, fun _ => rfl, fun h => by simp [kindC] at h⟩
  | x :: l, ats, out, s, h => by
    obtain ⟨r, s1, h1, h2, h3⟩ := h x (List.mem_cons_self ..) s
    obtain ⟨a2, out', s', k1, k2, k3, k4, k5, k6, k7⟩ := lev1_ok within l (ats ++ [r]) (outF x r out) s1 (fun y hy => h y (List.mem_cons_of_mem _ hy))
    have hr : AtR s'.nodes r x := by rw [k2.nodes]; exact ⟨h3.1.more _, h3.2.more _⟩
    refine ⟨r :: a2, out', s', ?_, ?_, ⟨hr, k3⟩, ?_, ?_, ?_, ?_⟩
    · rw [flev1, h1]
      simp only
      rw [k1, List.append_assoc]
      rfl
    · rw [levL, edgIs]; exact h2.trans k2
    · intro h0
      rw [kindC_cons] at h0
      have hx : x.kind ≠ 1 := fun e => by rw [if_pos e] at h0; omega
      rw [k4 (by omega)]
      unfold outF
      rw [if_neg hx]
      split <;> rfl
    · intro h0
      rw [kindC_cons] at h0
      rw [sideIn]
      by_cases hx : x.kind = 1
      · rw [if_pos hx] at h0
        rw [if_pos ((sideK_iff true x.kind).2 hx), k4 (by omega)]
        unfold outF
        rw [if_pos hx]
        have := hr.1
        unfold inId at this
        rwa [if_neg (by omega)] at this
      · rw [if_neg hx] at h0
        rw [if_neg (fun e => hx ((sideK_iff true x.kind).1 e))]
        exact k5 (by omega)
    · intro h0
      rw [kindC_cons] at h0
      have hx : x.kind ≠ 2 := fun e => by rw [if_pos e] at h0; omega
      rw [k6 (by omega)]
      unfold outF
      by_cases hx1 : x.kind = 1
      · rw [if_pos hx1]
      · rw [if_neg hx1, if_neg hx]
    · intro h0
      rw [kindC_cons] at h0
      rw [sideIn]
      by_cases hx : x.kind = 2
      · rw [if_pos hx] at h0
        rw [if_pos ((sideK_iff false x.kind).2 hx), k6 (by omega)]
        unfold outF
        rw [if_neg (by omega), if_pos hx]
        have := hr.2
        unfold outId at this
        rwa [if_neg (by omega)] at this
      · rw [if_neg hx] at h0
        rw [if_neg (fun e => hx ((sideK_iff false x.kind).1 e))]
        exact k7 (by omega)
theorem edge_ok {l : List ItemD} {ats : List (Int × Int)} {s : FS} (ha : All2 (AtR s.nodes) ats l) (h7 : ∀ x ∈ l, x.kind = 7 → OneSE x.items) {q : SeqD} (h1 : ∃ x ∈ l, x.id = q.src) (h2 : ∃ x ∈ l, x.id = q.dst) : ∃ e, fedge l ats q s = ⟨s.msgs, s.nodes, s.edges ++ [e], s.e⟩ ∧ EdgR s.nodes e (edgQ l q) := by
  obtain ⟨i, i1, x, i2, _, i4⟩ := side_at q.src false 0 h1 h7
  obtain ⟨j, j1, y, j2, _, j4⟩ := side_at q.dst true 0 h2 h7
  rw [Nat.zero_add] at i1 j1
  obtain ⟨a, a1, a2⟩ := All2.at_ i ha i2
  obtain ⟨b, b1, b2⟩ := All2.at_ j ha j2
  unfold fedge
  rw [i1, j1, Int.toNat_natCast, Int.toNat_natCast, List.getD_eq_getElem?_getD, List.getD_eq_getElem?_getD, a1, b1]
  simp only [Option.getD_some]
  have ha2 := a2.2.1
  have hb1 := b2.1.1
  rw [if_neg (by rintro (h | h | h | h) <;> omega)]
  refine ⟨_, rfl, ?_, ?_⟩
  · show IdAt s.nodes a.2 (sideF q.src false l)
    rw [i4]; exact a2.2
  · show IdAt s.nodes b.1 (sideF q.dst true l)
    rw [j4]; exact b2.1
theorem lev2_ok {l : List ItemD} {ats : List (Int × Int)} (h7 : ∀ x ∈ l, x.kind = 7 → OneSE x.items) : ∀ (sq : List SeqD) (s : FS), All2 (AtR s.nodes) ats l → (∀ q ∈ sq, (∃ x ∈ l, x.id = q.src) ∧ ∃ x ∈ l, x.id = q.dst) →
    LevS ps fl [] (sq.map (edgQ l)) s (flev2 l ats sq s)
  | [], s, _, _ => ⟨rfl, (List.append_nil _).symm, ⟨[], (List.append_nil _).symm, trivial⟩, rfl⟩
  | q :: sq, s, ha, h => by
    obtain ⟨e, h1, h2⟩ := edge_ok ha h7 (h q (List.mem_cons_self ..)).1 (h q (List.mem_cons_self ..)).2
    have := lev2_ok h7 sq (fedge l ats q s) (by rw [h1]; exact ha) (fun z hz => h z (List.mem_cons_of_mem _ hz))
    have hs : LevS ps fl [] [edgQ l q] s (fedge l ats q s) := by
      rw [h1]
      exact ⟨rfl, (List.append_nil _).symm, ⟨[e], rfl, h2, trivial⟩, rfl⟩
    rw [flev2]
    exact hs.trans this
end
theorem lev_ok (ps : List ByteArray) (fl : List FlowD) : ∀ (f : Nat) (l : List ItemD) (sq : List SeqD) (within : Bool) (s : FS), LvlN ps fl f l sq →
    ∃ r s', flevF ps fl f within l sq s = some (r, s') ∧ LevS ps fl (levL within l) (edgL l sq) s s' ∧ (OneSE l → IdAt s'.nodes r.1 (sideIn true ⟨#[]⟩ l) ∧ IdAt s'.nodes r.2 (sideIn false ⟨#[]⟩ l))
  | 0, _, _, _, _, h => by unfold LvlN at h; exact h.elim
  | f + 1, l, sq, within, s, h => by
    unfold LvlN at h
    obtain ⟨h3, h7, h0, hq⟩ := h
    have hone : ∀ x ∈ l, x.kind = 7 → OneSE x.items := fun x hx k => (h7 x hx k).2
    obtain ⟨a2, out, s1, k1, k2, k3, k4, k5, k6, k7⟩ := lev1_ok (ps := ps) (fl := fl) (rec := flevF ps fl f true) within l [] (-1, -1) s (fun x hx s => item_ok within x (h3 x hx) (fun k s => by
      obtain ⟨r, s', r1, r2, r3⟩ := lev_ok ps fl f x.items x.seqs true s (h7 x hx k).1
      obtain ⟨r4, r5⟩ := r3 (h7 x hx k).2
      refine ⟨r, s', r1, r2, ?_, ?_⟩
      · show IdAt s'.nodes r.1 (inId x); unfold inId; rw [if_pos k]; exact r4
      · show IdAt s'.nodes r.2 (outId x); unfold outId; rw [if_pos k]; exact r5) (fun k => by
      obtain ⟨e1, e2⟩ := h0 x hx k
      rw [e1, e2]
      unfold edgL
      rw [edgIs]
      rfl) s)
    rw [List.nil_append] at k1
    have hl := lev2_ok (ps := ps) (fl := fl) hone sq s1 k3 hq
    have hn : (flev2 l a2 sq s1).nodes = s1.nodes := by rw [hl.nodes, nodesOf, List.append_nil]
    refine ⟨out, flev2 l a2 sq s1, ?_, ?_, fun ho => ?_⟩
    · rw [flevF, k1]
    · have := k2.trans hl
      rw [List.append_nil] at this
      exact this
    · rw [hn]
      exact ⟨k5 ho.1, k7 ho.2⟩
/-- The graph of a choreography. -/
theorem graph_ok {c : ChorD} {f : Nat} (h : LvlN (c.parts.map (·.id)) c.flows f c.items c.seqs) : ∃ s, graphF f c = some s ∧ LevS (c.parts.map (·.id)) c.flows (levL false c.items) (edgL c.items c.seqs) ⟨[], [], [], 0⟩ s := by
  obtain ⟨r, s', h1, h2, _⟩ := lev_ok _ _ f c.items c.seqs false ⟨[], [], [], 0⟩ h
  unfold graphF
  rw [h1]
  exact ⟨s', rfl, h2⟩
/-- Its edges, by the nodes' places. -/
theorem edges_at {ps : List ByteArray} {fl : List FlowD} {L : List ItemD} {Es : List (ByteArray × ByteArray)} {s : FS} (h : LevS ps fl L Es ⟨[], [], [], 0⟩ s) (hn : (L.map (·.id)).Nodup) : s.edges.length = Es.length ∧ ∀ j (hj : j < Es.length), s.edges[j]? = some (placeF (L.map (·.id)) Es[j].1, placeF (L.map (·.id)) Es[j].2) := by
  obtain ⟨E, h1, h2⟩ := h.edges
  have he : s.edges = E := by rw [h1]; rfl
  have hm : s.nodes.map (·.id) = L.map (·.id) := by rw [h.nodes]; show (([] : List NodeD) ++ _).map _ = _; rw [List.nil_append, nodesOf_ids]
  refine ⟨by rw [he]; exact h2.len, fun j hj => ?_⟩
  obtain ⟨a, a1, a2, a3⟩ := All2.at_ j h2 (List.getElem?_eq_getElem hj)
  rw [he, a1]
  unfold IdAt at a2 a3
  rw [hm] at a2 a3
  have p1 := place_at 0 a2.2 hn
  have p2 := place_at 0 a3.2 hn
  rw [Nat.zero_add] at p1 p2
  unfold placeF
  rw [p1, p2, Int.toNat_of_nonneg a2.1, Int.toNat_of_nonneg a3.1]
end Go.Proofs.Yteoioboiniealaa
namespace Go.Proofs.Yteoioboiniealaa
open Go.RowKit

/-- A text of letters a to z. -/
def lowB (s : ByteArray) : Prop := ∀ b ∈ s.data.toList, 97 ≤ b.toNat ∧ b.toNat ≤ 122
theorem low_append {a b : ByteArray} (ha : lowB a) (hb : lowB b) : lowB (a ++ b) := by
  intro x hx
  rw [ByteArray.data_append, Array.toList_append] at hx
  rcases List.mem_append.1 hx with hx | hx
  · exact ha x hx
  · exact hb x hx
theorem low_two (n : Nat) : lowB ⟨#[UInt8.ofNat (97 + n / 26 % 26), UInt8.ofNat (97 + n % 26)]⟩ := by
  intro x hx
  simp only [List.mem_cons, List.not_mem_nil, or_false] at hx
  rcases hx with rfl | rfl
  · rw [UInt8.toNat_ofNat']; omega
  · rw [UInt8.toNat_ofNat']; omega
theorem low_name {m : MkD} {s : ByteArray} (hp : lowB m.pre) (hs : lowB s) : lowB (gnameF m s) := low_append hp (low_append hs (low_two _))
/-- The number that an id was made by. -/
def numOf (s : ByteArray) : Nat := (s.data.toList.getD (s.size - 2) 0).toNat * 26 + (s.data.toList.getD (s.size - 1) 0).toNat - 97 * 26 - 97
theorem num_name {m : MkD} {s : ByteArray} (hn : m.n + 1 < 676) : numOf (gnameF m s) = m.n + 1 := by
  unfold numOf gnameF idF
  rw [← ByteArray.append_assoc]
  obtain ⟨q, hq⟩ : ∃ q, q = m.pre ++ s := ⟨_, rfl⟩
  rw [← hq]
  have hsz : (q ++ ⟨#[UInt8.ofNat (97 + (m.n + 1) / 26 % 26), UInt8.ofNat (97 + (m.n + 1) % 26)]⟩ : ByteArray).size = q.size + 2 := by rw [ByteArray.size_append]; rfl
  have hql : q.data.toList.length = q.size := by simp
  rw [hsz, ByteArray.data_append, Array.toList_append]
  have e1 : (q.data.toList ++ [UInt8.ofNat (97 + (m.n + 1) / 26 % 26), UInt8.ofNat (97 + (m.n + 1) % 26)]).getD (q.size + 2 - 2) 0 = UInt8.ofNat (97 + (m.n + 1) / 26 % 26) := by
    rw [List.getD_eq_getElem?_getD, List.getElem?_append_right (by omega), hql]
    simp
  have e2 : (q.data.toList ++ [UInt8.ofNat (97 + (m.n + 1) / 26 % 26), UInt8.ofNat (97 + (m.n + 1) % 26)]).getD (q.size + 2 - 1) 0 = UInt8.ofNat (97 + (m.n + 1) % 26) := by
    rw [List.getD_eq_getElem?_getD, List.getElem?_append_right (by omega), hql, show q.size + 2 - 1 - q.size = 1 by omega]
    simp
  show ((q.data.toList ++ [UInt8.ofNat (97 + (m.n + 1) / 26 % 26), UInt8.ofNat (97 + (m.n + 1) % 26)]).getD (q.size + 2 - 2) 0).toNat * 26 + ((q.data.toList ++ [UInt8.ofNat (97 + (m.n + 1) / 26 % 26), UInt8.ofNat (97 + (m.n + 1) % 26)]).getD (q.size + 2 - 1) 0).toNat - 97 * 26 - 97 = _
  rw [e1, e2, UInt8.toNat_ofNat', UInt8.toNat_ofNat']
  omega
/-- How often a number is an id's, of items, message flows, what follows what. -/
def kc (m : MkD) (a : Nat) : Nat := (m.items.map fun x => numOf x.id).count a + (m.flows.map fun x => numOf x.id).count a + (m.seqs.map fun x => numOf x.id).count a
/-- What holds of all ids of a maker: their first bytes, letters, numbers. -/
structure KeyM (m : MkD) : Prop where
  key : ∀ a, kc m a ≤ 1 ∧ (0 < kc m a → 1 ≤ a ∧ a ≤ m.n)
  items : ∀ x ∈ m.items, lowB x.id ∧ x.id.size = m.pre.size + 3 ∧ ∃ r, x.id = m.pre ++ r ∧ r.data.toList.headD 0 ≠ 120
  flows : ∀ x ∈ m.flows, lowB x.id ∧ x.id.size = m.pre.size + 3 ∧ ∃ r, x.id = m.pre ++ r ∧ r.data.toList.headD 0 ≠ 120
  seqs : ∀ x ∈ m.seqs, lowB x.id ∧ x.id.size = m.pre.size + 3 ∧ ∃ r, x.id = m.pre ++ r ∧ r.data.toList.headD 0 ≠ 120
def KeyI (m : MkD) : Prop := m.n ≤ 600 → lowB m.pre → KeyM m
theorem name_fit (m : MkD) (c : UInt8) (hp : lowB m.pre) (hc : 97 ≤ c.toNat ∧ c.toNat < 120) : lowB (gnameF m ⟨#[c]⟩) ∧ (gnameF m ⟨#[c]⟩).size = m.pre.size + 3 ∧ ∃ r, gnameF m ⟨#[c]⟩ = m.pre ++ r ∧ r.data.toList.headD 0 ≠ 120 := by
  refine ⟨low_name hp (fun b hb => ?_), ?_, _, rfl, ?_⟩
  · have : b = c := by simpa using hb
    rw [this]; omega
  · unfold gnameF idF
    rw [ByteArray.size_append, ByteArray.size_append]
    rfl
  · unfold idF
    rw [ByteArray.data_append, Array.toList_append]
    show c ≠ 120
    intro e
    rw [e] at hc
    exact absurd hc.2 (by decide)
theorem count_snoc (l : List Nat) (b a : Nat) : (l ++ [b]).count a = l.count a + if b = a then 1 else 0 := by
  rw [List.count_append, List.count_cons, List.count_nil]
  simp only [beq_iff_eq, Nat.zero_add]
theorem key_item {m : MkD} (h : KeyI m) (x : ItemD) (c : UInt8) (hc : 97 ≤ c.toNat ∧ c.toNat < 120) (hx : x.id = gnameF m ⟨#[c]⟩) : KeyI (gitemF (gnamedF m) x) := by
  intro hn hp
  have hn' : m.n + 1 ≤ 600 := hn
  have hp' : lowB m.pre := hp
  have k := h (by omega) hp'
  have hnum : numOf x.id = m.n + 1 := by rw [hx]; exact num_name (by omega)
  refine ⟨fun a => ?_, fun y hy => ?_, k.flows, k.seqs⟩
  · have ka := k.key a
    have e : kc (gitemF (gnamedF m) x) a = kc m a + if m.n + 1 = a then 1 else 0 := by
      unfold kc gitemF gnamedF
      simp only [List.map_append, List.map_cons, List.map_nil]
      rw [count_snoc, hnum]
      omega
    rw [e]
    show _ ∧ (_ → 1 ≤ a ∧ a ≤ m.n + 1)
    split <;> omega
  · have hy' : y ∈ m.items ++ [x] := hy
    rcases List.mem_append.1 hy' with hy' | hy'
    · exact k.items y hy'
    · rw [List.mem_singleton.1 hy', hx]; exact name_fit m c hp' hc
theorem key_seq {m : MkD} (h : KeyI m) (a b : ByteArray) : KeyI (gseqF m a b) := by
  intro hn hp
  have hn' : m.n + 1 ≤ 600 := hn
  have hp' : lowB m.pre := hp
  have k := h (by omega) hp'
  have hnum : numOf (gnameF m chS) = m.n + 1 := num_name (by omega)
  refine ⟨fun v => ?_, k.items, k.flows, fun y hy => ?_⟩
  · have ka := k.key v
    have e : kc (gseqF m a b) v = kc m v + if m.n + 1 = v then 1 else 0 := by
      unfold kc gseqF
      simp only [List.map_append, List.map_cons, List.map_nil]
      rw [count_snoc, hnum]
      omega
    rw [e]
    show _ ∧ (_ → 1 ≤ v ∧ v ≤ m.n + 1)
    split <;> omega
  · have hy' : y ∈ m.seqs ++ [⟨gnameF m chS, a, b⟩] := hy
    rcases List.mem_append.1 hy' with hy' | hy'
    · exact k.seqs y hy'
    · rw [List.mem_singleton.1 hy']; exact name_fit m 115 hp' (by decide)
theorem key_task {m : MkD} (h : KeyI m) (x : Nat) : KeyI (gtaskF m x) := by
  intro hn hp
  have hp' : lowB m.pre := hp
  have e1 : ∀ k, numOf (gnameF m k) = m.n + 1 ∨ 675 ≤ m.n := fun k => by
    rcases Nat.lt_or_ge (m.n + 1) 676 with h1 | h1
    · exact .inl (num_name h1)
    · exact .inr (by omega)
  have hnx : (gtaskF m x).n = m.n + (if gback x then 3 else 2) := rfl
  rw [hnx] at hn
  have hn2 : m.n + 2 ≤ 600 := by split at hn <;> omega
  have k := h (by omega) hp'
  have n1 : numOf (gnameF m chT) = m.n + 1 := num_name (by omega)
  have n2 : numOf (gnameF (gnamedF m) chF) = m.n + 1 + 1 := num_name (by show m.n + 1 + 1 < 676; omega)
  have n3 : numOf (gnameF (gnamedF (gnamedF m)) chF) = m.n + 1 + 1 + 1 := num_name (by show m.n + 1 + 1 + 1 < 676; omega)
  refine ⟨fun a => ?_, fun y hy => ?_, fun y hy => ?_, k.seqs⟩
  · have ka := k.key a
    show _ ∧ (_ → 1 ≤ a ∧ a ≤ m.n + (if gback x then 3 else 2))
    have e : kc (gtaskF m x) a = kc m a + (if m.n + 1 = a then 1 else 0) + (if m.n + 1 + 1 = a then 1 else 0) + (if gback x = true then (if m.n + 1 + 1 + 1 = a then 1 else 0) else 0) := by
      unfold kc gtaskF gtaskL
      simp only [List.map_append, List.map_cons, List.map_nil]
      rw [count_snoc]
      cases hb : gback x
      · simp only [Bool.false_eq_true, if_false, List.map_nil, List.count_append, List.count_cons, List.count_nil, beq_iff_eq, Nat.zero_add]
        rw [n2, show numOf (gtaskI m x).id = m.n + 1 from n1]
        omega
      · simp only [if_true, List.map_cons, List.map_nil, List.count_append, List.count_cons, List.count_nil, beq_iff_eq, Nat.zero_add]
        rw [n2, n3, show numOf (gtaskI m x).id = m.n + 1 from n1]
        omega
    rw [e]
    cases gback x
    · simp only [Bool.false_eq_true, if_false]
      split <;> split <;> omega
    · simp only [if_true]
      split <;> split <;> split <;> omega
  · have hy' : y ∈ m.items ++ [gtaskI m x] := hy
    rcases List.mem_append.1 hy' with hy' | hy'
    · exact k.items y hy'
    · rw [List.mem_singleton.1 hy']; exact name_fit m 116 hp' (by decide)
  · have hy' : y ∈ m.flows ++ gtaskL m x := hy
    rcases List.mem_append.1 hy' with hy' | hy'
    · exact k.flows y hy'
    · have h1 := name_fit (gnamedF m) 102 hp' (by decide)
      have h2 := name_fit (gnamedF (gnamedF m)) 102 hp' (by decide)
      unfold gtaskL at hy'
      cases hb : gback x <;> rw [hb] at hy' <;> simp at hy'
      · rw [hy']; exact h1
      · rcases hy' with hy' | hy' <;> rw [hy']
        · exact h1
        · exact h2
theorem key_inv : GenInv KeyI where
  next m h := fun hn hp => ⟨(h hn hp).key, (h hn hp).items, (h hn hp).flows, (h hn hp).seqs⟩
  item m k _ h := key_item h _ 103 (by decide) rfl
  seq m a b _ _ h := key_seq h a b
  task m x h := key_task h x
theorem key_level {m : MkD} (h : KeyI m) (deep : Nat) : KeyI (glevelF m deep) := by
  have b := body_ok key_inv (m := m) deep (key_item h _ 98 (by decide) rfl)
  rw [glevel_eq]
  exact key_seq (key_item b.inv _ 101 (by decide) rfl) _ _
theorem key_none {m : MkD} (h1 : m.items = []) (h2 : m.flows = []) (h3 : m.seqs = []) : KeyI m := by
  intro _ _
  refine ⟨fun a => ?_, fun x hx => ?_, fun x hx => ?_, fun x hx => ?_⟩
  · unfold kc
    rw [h1, h2, h3]
    simp
  · rw [h1] at hx; cases hx
  · rw [h2] at hx; cases hx
  · rw [h3] at hx; cases hx
theorem low_y : lowB ⟨#[121]⟩ := by
  intro b hb
  have : b = 121 := by simpa using hb
  rw [this]
  decide
theorem low_x : lowB ⟨#[120]⟩ := by
  intro b hb
  have : b = 120 := by simpa using hb
  rw [this]
  decide
theorem low_nil : lowB ⟨#[]⟩ := by
  intro b hb
  simp at hb
theorem grow_levelI (m : MkD) (deep : Nat) : GrowM (gG deep + 6) m (glevelF m deep) := by
  have h1 : GrowM 2 m (gstartF m) := (grow_named m).trans (grow_item _ _)
  have h2 := grow_part deep (gstartF m) (gnameF m chB_)
  have h3 : GrowM 3 (gbodyF m deep).2 (glevelF m deep) := ((grow_named _).trans (grow_item _ _)).trans (grow_seq _ _ _)
  exact ((h1.trans h2).trans h3).mono (by omega)
theorem key_make (p : List Int) (pre : ByteArray) (hp : lowB pre) : KeyM (gmakeF p pre) ∧ (gmakeF p pre).n ≤ 109 ∧ (gmakeF p pre).pre = pre := by
  have hg := grow_levelI (gbeginF p (2 + pickF p 0 % 16 % 3) pre) 3
  have hG : gG 3 = 103 := rfl
  have hn : (gmakeF p pre).n ≤ 0 + (gG 3 + 6) := hg.n
  rw [hG] at hn
  have hpre : (gmakeF p pre).pre = pre := hg.pre
  exact ⟨key_level (key_none rfl rfl rfl) 3 (show (gmakeF p pre).n ≤ 600 by omega) (show lowB (gmakeF p pre).pre by rw [hpre]; exact hp), by omega, hpre⟩
theorem key_in (q : List Int) (parts : List PartD) : KeyM (ginF q parts) ∧ (ginF q parts).n ≤ 25 ∧ (ginF q parts).pre = ⟨#[121]⟩ := by
  have gm := grow_levelI ⟨q, 5, 0, parts, [], [], [], ⟨#[121]⟩⟩ 1
  have hG : gG 1 = 19 := rfl
  have hn : (ginF q parts).n ≤ 0 + (gG 1 + 6) := gm.n
  rw [hG] at hn
  have hpre : (ginF q parts).pre = ⟨#[121]⟩ := gm.pre
  exact ⟨key_level (key_none rfl rfl rfl) 1 (show (ginF q parts).n ≤ 600 by omega) (show lowB (ginF q parts).pre by rw [hpre]; exact low_y), by omega, hpre⟩
theorem gparts_begin (p : List Int) (n : Nat) (pre : ByteArray) : (gbeginF p n pre).parts.map (·.id) = (List.range n).map (fun i => pre ++ gpn i) := by
  unfold gbeginF
  simp
theorem gmore_ids (n k : Nat) (l : List PartD) (hl : l.map (·.id) = (List.range k).map gpn) : ∃ N, (gmoreF n l).map (·.id) = (List.range N).map gpn ∧ (N = k ∨ N = n) ∧ k ≤ N := by
  have hk : l.length = k := by
    have := congrArg List.length hl
    simpa using this
  unfold gmoreF
  rw [List.map_append, hl, hk]
  refine ⟨k + (n - k), ?_, by omega, by omega⟩
  rw [List.range_add, List.map_append]
  congr 1
  simp
theorem mod_inj {n a b pk len : Nat} (hn : n ≤ len) (ha : a < n) (hb : b < n) (hlt : a < b) : (a + pk) % len ≠ (b + pk) % len := by
  intro e
  have h1 : (a + pk) % len = (a + pk % len) % len := by rw [Nat.add_mod a pk len, Nat.add_mod a (pk % len) len, Nat.mod_mod]
  have h2 : (b + pk) % len = (b + pk % len) % len := by rw [Nat.add_mod b pk len, Nat.add_mod b (pk % len) len, Nat.mod_mod]
  rw [h1, h2] at e
  have hk : pk % len < len := Nat.mod_lt _ (by omega)
  generalize pk % len = k at *
  by_cases c1 : a + k < len
  · rw [Nat.mod_eq_of_lt c1] at e
    by_cases c2 : b + k < len
    · rw [Nat.mod_eq_of_lt c2] at e; omega
    · rw [Nat.mod_eq_sub_mod (by omega), Nat.mod_eq_of_lt (by omega)] at e; omega
  · rw [Nat.mod_eq_sub_mod (by omega), Nat.mod_eq_of_lt (by omega)] at e
    rw [Nat.mod_eq_sub_mod (by omega), Nat.mod_eq_of_lt (by omega)] at e
    omega
end Go.Proofs.Yteoioboiniealaa
namespace Go.Proofs.Yteoioboiniealaa
open Go.RowKit

theorem placeN {ps : List ByteArray} {a b : ByteArray} (ha : a ∈ ps) (hb : b ∈ ps) (hne : a ≠ b) : 0 ≤ placeF ps a ∧ 0 ≤ placeF ps b ∧ placeF ps a ≠ placeF ps b := ⟨place_ge ha, place_ge hb, fun h => hne (place_inj ha h)⟩
def FlowOk (ps : List ByteArray) (fl : List FlowD) : Prop := ∀ f ∈ fl, f.src ∈ ps ∧ f.dst ∈ ps ∧ f.src ≠ f.dst
theorem lflow_mem {fl : List FlowD} {f : ByteArray} (h : ∃ y ∈ fl, y.id = f) : lflowF f fl ∈ fl := by
  obtain ⟨i, _, h2⟩ := flow_found (fl := fl) 0 h
  exact List.mem_of_getElem? h2
/-- A task, its message flows among some. -/
def TaskH (fl : List FlowD) (x : ItemD) : Prop := (1 ≤ x.flows.length ∧ x.flows.length ≤ 2) ∧ ∀ f ∈ x.flows, ∃ y ∈ fl, y.id = f
theorem taskN_of {ps : List ByteArray} {fl : List FlowD} (hok : FlowOk ps fl) {x : ItemD} (h : TaskH fl x) : TaskN ps fl x := by
  obtain ⟨hl, hh⟩ := h
  match hq : x.flows with
  | [] => rw [hq] at hl; simp at hl
  | f :: r =>
    have hf := hh f (by rw [hq]; exact List.mem_cons_self ..)
    obtain ⟨h1, h2, h3⟩ := hok _ (lflow_mem hf)
    obtain ⟨p1, p2, p3⟩ := placeN h1 h2 h3
    exact ⟨hl, hh, by rw [hq]; exact p1, by rw [hq]; exact p2, by rw [hq]; exact p3⟩
theorem TaskH.more {fl fl' : List FlowD} {x : ItemD} (h : TaskH fl x) (hm : ∀ y ∈ fl, y ∈ fl') : TaskH fl' x := ⟨h.1, fun f hf => by
  obtain ⟨y, hy, e⟩ := h.2 f hf
  exact ⟨y, hm y hy, e⟩⟩
theorem flatM_task {m : MkD} (h : FlatM m) {x : ItemD} (hx : x ∈ m.items) (h3 : x.kind = 3) : TaskH m.flows x := by
  obtain ⟨⟨a, l, e, hl⟩, hh⟩ := h.tasks x hx h3
  refine ⟨?_, hh⟩
  rw [e, List.length_cons]
  omega
/-! One start, one end; loops. -/
theorem kindC_append (k : Int) (a b : List ItemD) : kindC k (a ++ b) = kindC k a + kindC k b := by unfold kindC; rw [List.filter_append, List.length_append]
structure SeM (m : MkD) : Prop where
  s1 : kindC 1 m.items = 1
  s2 : kindC 2 m.items = 0
  lp : ∀ x ∈ m.items, x.kind ≠ 3 → x.loop = false
theorem se_push {m m' : MkD} (h : SeM m) {x : ItemD} (hm : m'.items = m.items ++ [x]) (h1 : x.kind ≠ 1) (h2 : x.kind ≠ 2) (hl : x.kind ≠ 3 → x.loop = false) : SeM m' := by
  refine ⟨?_, ?_, fun y hy => ?_⟩
  · rw [hm, kindC_append, kindC_cons, if_neg h1, h.s1]; rfl
  · rw [hm, kindC_append, kindC_cons, if_neg h2, h.s2]; rfl
  · rw [hm] at hy
    rcases List.mem_append.1 hy with hy | hy
    · exact h.lp y hy
    · rw [List.mem_singleton.1 hy]; exact hl
theorem se_inv : GenInv SeM where
  next _ h := ⟨h.s1, h.s2, h.lp⟩
  task m x h := se_push h (x := gtaskI m x) rfl (by show (3 : Int) ≠ 1; decide) (by show (3 : Int) ≠ 2; decide) (fun e => absurd rfl e)
  item m k hk h := se_push h (x := gitem0 k (gnameF m chG)) rfl (by show k ≠ 1; omega) (by show k ≠ 2; omega) (fun _ => rfl)
  seq _ _ _ _ _ h := ⟨h.s1, h.s2, h.lp⟩
theorem se_level {m : MkD} (h : m.items = []) (deep : Nat) : OneSE (glevelF m deep).items ∧ ∀ x ∈ (glevelF m deep).items, x.kind ≠ 3 → x.loop = false := by
  have h0 : SeM (gstartF m) := by
    have e : (gstartF m).items = [gitem0 1 (gnameF m chB_)] := by show m.items ++ _ = _; rw [h]; rfl
    refine ⟨by rw [e]; rfl, by rw [e]; rfl, fun x hx _ => ?_⟩
    rw [e] at hx
    rw [List.mem_singleton.1 hx]; rfl
  have b := (body_ok se_inv (m := m) deep h0).inv
  have he : (glevelF m deep).items = (gbodyF m deep).2.items ++ [gitem0 2 (gnameF (gbodyF m deep).2 chE)] := by rw [glevel_eq]; rfl
  refine ⟨⟨?_, ?_⟩, fun x hx => ?_⟩
  · rw [he, kindC_append, b.s1]; rfl
  · rw [he, kindC_append, b.s2]; rfl
  · rw [he] at hx
    rcases List.mem_append.1 hx with hx | hx
    · exact b.lp x hx
    · rw [List.mem_singleton.1 hx]; intro _; rfl
/-! Plain items. -/
theorem levL_plain (within : Bool) : ∀ {l : List ItemD}, (∀ y ∈ l, y.kind ≠ 7) → levL within l = l.map (fun y => withK y (nodeK within y.kind))
  | [], _ => by rw [levL]; rfl
  | x :: l, h => by
    rw [levL, levI_eq, if_neg (h x (List.mem_cons_self ..)), levL_plain within (fun y hy => h y (List.mem_cons_of_mem _ hy))]
    rfl
theorem map_withK_id (within : Bool) (l : List ItemD) : (l.map (fun y => withK y (nodeK within y.kind))).map (·.id) = l.map (·.id) := by
  rw [List.map_map]
  rfl
theorem key_nodup {m : MkD} (h : KeyM m) : (m.items.map (·.id)).Nodup := by
  have hn : (m.items.map (fun x => numOf x.id)).Nodup := by
    rw [List.nodup_iff_count]
    intro a
    have := (h.key a).1
    unfold kc at this
    omega
  have e : m.items.map (fun x => numOf x.id) = (m.items.map (·.id)).map numOf := by rw [List.map_map]; rfl
  rw [e] at hn
  exact List.Pairwise.of_map numOf (fun _ _ hab e => hab (by rw [e])) hn
theorem append_left_inj {a b c : ByteArray} (h : a ++ b = a ++ c) : b = c := by
  have h1 : (a ++ b).data.toList = (a ++ c).data.toList := by rw [h]
  rw [ByteArray.data_append, ByteArray.data_append, Array.toList_append, Array.toList_append] at h1
  have h2 := List.append_cancel_left h1
  obtain ⟨x⟩ := b
  obtain ⟨y⟩ := c
  simp only at h2
  rw [Array.toList_inj.1 h2]
theorem pre_nodup (p : ByteArray) {l : List ByteArray} (h : l.Nodup) : (l.map (p ++ ·)).Nodup := List.Pairwise.map _ (fun _ _ hab e => hab (append_left_inj e)) h
/-! Who stands for whom. -/
theorem who_at (P : Nat → ByteArray) (b : Nat → ByteArray) (hb : ∀ i j, i < 4 → j < 4 → b i = b j → i = j) : ∀ (n : Nat) (k : Nat), k < n → n ≤ 4 → whoF ((List.range n).map (fun i => ⟨b i, P i⟩)) (b k) = P k := by
  have key : ∀ (l : List Nat) (k : Nat), k ∈ l → (∀ i ∈ l, i < 4) → whoF (l.map (fun i => (⟨b i, P i⟩ : MapD))) (b k) = P k := by
    intro l
    induction l with
    | nil => intro k h; cases h
    | cons a l ih =>
      intro k hk h4
      rw [List.map_cons, whoF]
      by_cases ha : a = k
      · subst ha
        rw [if_pos (eqS_rfl _)]
      · have hk' : k ∈ l := by
          rcases List.mem_cons.1 hk with h | h
          · exact absurd h.symm ha
          · exact h
        rw [if_neg, ih k hk' (fun i hi => h4 i (List.mem_cons_of_mem _ hi))]
        intro e
        exact ha (hb a k (h4 a (List.mem_cons_self ..)) (h4 k hk) (eqS_eq e))
  intro n k hk hn
  exact key (List.range n) k (List.mem_range.2 hk) (fun i hi => by have := List.mem_range.1 hi; omega)
/-- What FlatNodes asks of a choreography. -/
structure FloN (c : ChorD) : Prop where
  lvl : LvlN (c.parts.map (·.id)) c.flows 2 c.items c.seqs
  ids : ((levL false c.items).map (·.id)).Nodup
  loop : ∀ y ∈ levL false c.items, y.kind ≠ 3 → y.loop = false
  tasks : ∀ y ∈ levL false c.items, y.kind = 3 → 1 ≤ y.flows.length ∧ y.flows.length ≤ 2
  nP : c.parts.length ≤ 1000
  nF : c.flows.length ≤ 1000
  nI : c.items.length ≤ 1000
  nS : c.seqs.length ≤ 1000
  nL : ∀ b, (levL b c.items).length ≤ 1000
  nE : (edgIs c.items).length ≤ 1000
  subs : ∀ y ∈ c.items, y.items.length ≤ 1000 ∧ y.seqs.length ≤ 1000 ∧ (∀ b, (levL b y.items).length ≤ 1000) ∧ ∀ z ∈ y.items, z.kind ≠ 7 ∧ z.items = [] ∧ z.seqs = []
theorem FloN.lenL {c : ChorD} (h : FloN c) : Go.Proofs.Yteoioboiniealaa.lenL c.items := lenL_all.2 fun x hx => by
  obtain ⟨h1, h2, _, h4⟩ := h.subs x hx
  rw [lenI_eq]
  refine ⟨by omega, lenL_all.2 fun z hz => ?_⟩
  rw [lenI_eq, (h4 z hz).2.1]
  exact ⟨by decide, lenL_all.2 fun y hy => by cases hy⟩
theorem FloN.lev {c : ChorD} (h : FloN c) : LlOk c.items := llev_step c.items (by have := h.nI; omega) (fun b => by have := h.nL b; omega) fun y hy _ => by
  obtain ⟨h1, h2, h3, h4⟩ := h.subs y hy
  exact llev_step y.items (by omega) (fun b => by have := h3 b; omega) fun z hz k7 => absurd k7 (h4 z hz).1
theorem edg_nil : edgIs [] = [] := by rw [edgIs]
theorem edgIs_none : ∀ {l : List ItemD}, (∀ z ∈ l, z.items = [] ∧ z.seqs = []) → edgIs l = []
  | [], _ => by rw [edgIs]
  | x :: l, h => by
    obtain ⟨e1, e2⟩ := h x (List.mem_cons_self ..)
    rw [edgIs, edgIs_none (fun z hz => h z (List.mem_cons_of_mem _ hz)), edgI_eq, e1, e2]
    unfold edgL
    rw [edgIs]
    rfl
theorem FloN.edg {c : ChorD} (h : FloN c) : EdOk c.items c.seqs := by
  refine edges_step c.items c.seqs (by have := h.nI; omega) (by have := h.nS; omega) (by have := h.nE; omega) fun y hy => ?_
  obtain ⟨h1, h2, _, h4⟩ := h.subs y hy
  refine edges_step y.items y.seqs (by omega) (by omega) (by rw [edgIs_none (fun z hz => (h4 z hz).2)]; simp) fun z hz => ?_
  obtain ⟨_, e1, e2⟩ := h4 z hz
  rw [e1, e2]
  exact edges_step [] [] (by simp) (by simp) (by rw [edgIs]; simp) fun a ha => by cases ha
/-! The nested document. -/
theorem gpn_sub {N a : Nat} {l : List ByteArray} (hl : l = (List.range N).map gpn) (ha : a < N) : gpn a ∈ l := by
  rw [hl]
  exact List.mem_map.2 ⟨a, List.mem_range.2 ha, rfl⟩
theorem flat_begin {m : MkD} (h2 : 2 ≤ m.parts.length) (hi : m.items = []) (hf : m.flows = []) (hs : m.seqs = []) : FlatM m :=
  ⟨h2, fun f h => (by rw [hf] at h; cases h), fun f h => (by rw [hi] at h; cases h), fun f h => (by rw [hi] at h; cases h), fun f h => (by rw [hs] at h; cases h)⟩
theorem part_gpn {l : List PartD} {pre : ByteArray} {N : Nat} (hl : l.map (·.id) = (List.range N).map (fun i => pre ++ gpn i)) {a : Nat} (ha : a < l.length) : (l.getD a ⟨⟨#[]⟩, ⟨#[]⟩⟩).id = pre ++ gpn a ∧ a < N := by
  have hn : l.length = N := by
    have := congrArg List.length hl
    simpa using this
  have h1 : (l.map (·.id))[a]? = ((List.range N).map (fun i => pre ++ gpn i))[a]? := by rw [hl]
  rw [List.getElem?_map, List.getElem?_map, List.getElem?_range (by omega), List.getElem?_eq_getElem ha] at h1
  rw [List.getD_eq_getElem?_getD, List.getElem?_eq_getElem ha]
  simp only [Option.map_some, Option.some.injEq] at h1
  exact ⟨h1, by omega⟩
theorem em_app (s : ByteArray) : (⟨#[]⟩ : ByteArray) ++ s = s := ByteArray.empty_append
set_option maxHeartbeats 1000000 in
theorem flo_nest (p q : List Int) (hp : p.length ≤ maxLen) (hq : q.length ≤ maxLen) : ∃ c x, NestOk (gnestedF p q) c x ∧ FloN (wantC c x) := by
  obtain ⟨c', x', hN⟩ := nest_ok p q hp hq
  refine ⟨c', x', hN, ?_⟩
  obtain ⟨mc, hmc⟩ : ∃ m, m = gmakeF p ⟨#[]⟩ := ⟨_, rfl⟩
  obtain ⟨mx, hmx⟩ : ∃ m, m = gmakeF q ⟨#[120]⟩ := ⟨_, rfl⟩
  obtain ⟨x, hx⟩ : ∃ x, x = gchorF q sD ⟨#[120]⟩ := ⟨_, rfl⟩
  obtain ⟨P, hP⟩ : ∃ P, P = gmoreF mx.parts.length mc.parts := ⟨_, rfl⟩
  obtain ⟨m, hm⟩ : ∃ m, m = ginF q P := ⟨_, rfl⟩
  obtain ⟨ms, hms⟩ : ∃ ms, ms = (gcallF x P q).maps := ⟨_, rfl⟩
  obtain ⟨sq, hsq⟩ : ∃ l, l = gseqsF mc.seqs := ⟨_, rfl⟩
  have hd : gnestedF p q = ⟨gmsgsF, [⟨sC, P, mc.flows ++ m.flows, mc.items ++ [callX ms, gsubF m], sq⟩, x]⟩ := by rw [hsq, hms, hm, hP, hx, hmx, hmc]; rfl
  have he := hN.eq
  rw [hd] at he
  injection he with _ he
  injection he with h1 he
  injection he with h2 _
  subst h1
  subst h2
  -- what the three makers are
  have hfc := gchor_facts p hp ⟨#[99]⟩ ⟨#[]⟩ (by decide)
  have lc : 2 ≤ mc.parts.length ∧ mc.parts.length ≤ 4 ∧ mc.flows.length ≤ 108 ∧ mc.items.length ≤ 108 ∧ mc.seqs.length ≤ 108 ∧ 1 ≤ mc.seqs.length := by rw [hmc]; exact hfc
  have hfx := gchor_facts q hq ⟨#[100]⟩ ⟨#[120]⟩ (by decide)
  have lx : 2 ≤ mx.parts.length ∧ mx.parts.length ≤ 4 ∧ mx.flows.length ≤ 108 ∧ mx.items.length ≤ 108 ∧ mx.seqs.length ≤ 108 ∧ 1 ≤ mx.seqs.length := by rw [hmx]; exact hfx
  have xe : x.parts = mx.parts ∧ x.flows = mx.flows ∧ x.items = mx.items ∧ x.seqs = mx.seqs := by rw [hx, hmx]; exact ⟨rfl, rfl, rfl, rfl⟩
  obtain ⟨xp, xf, xi, xs⟩ := xe
  have pc : PlainM mc := by rw [hmc]; exact plain_chor p ⟨#[]⟩ (by decide)
  have px : PlainM mx := by rw [hmx]; exact plain_chor q ⟨#[120]⟩ (by decide)
  have pm : PlainM m := by rw [hm]; exact plain_in q P
  have gm := grow_levelI ⟨q, 5, 0, P, [], [], [], ⟨#[121]⟩⟩ 1
  have hG : gG 1 = 19 := rfl
  have ly1 : m.items.length ≤ 0 + (gG 1 + 6) := by rw [hm]; exact gm.items
  have ly2 : m.seqs.length ≤ 0 + (gG 1 + 6) := by rw [hm]; exact gm.seqs
  have ly3 : m.flows.length ≤ 0 + (gG 1 + 6) := by rw [hm]; exact gm.flows
  rw [hG] at ly1 ly2 ly3
  have gc := grow_levelI (gbeginF p (2 + pickF p 0 % 16 % 3) ⟨#[]⟩) 3
  have gx := grow_levelI (gbeginF q (2 + pickF q 0 % 16 % 3) ⟨#[120]⟩) 3
  have hcp : mc.parts.map (·.id) = (List.range (2 + pickF p 0 % 16 % 3)).map gpn := by
    have e : mc.parts = (gbeginF p (2 + pickF p 0 % 16 % 3) ⟨#[]⟩).parts := by rw [hmc]; exact gc.parts
    rw [e, gparts_begin]
    exact List.map_congr_left (fun i _ => em_app _)
  have hxp : mx.parts.map (·.id) = (List.range (2 + pickF q 0 % 16 % 3)).map (fun i => (⟨#[120]⟩ : ByteArray) ++ gpn i) := by
    have e : mx.parts = (gbeginF q (2 + pickF q 0 % 16 % 3) ⟨#[120]⟩).parts := by rw [hmx]; exact gx.parts
    rw [e, gparts_begin]
  obtain ⟨N, hPN, hNo, hNk⟩ := gmore_ids mx.parts.length _ mc.parts hcp
  rw [← hP] at hPN
  have hN4 : N ≤ 4 := by omega
  have hPl : P.length = N := by
    have := congrArg List.length hPN
    simpa using this
  have hPx : mx.parts.length ≤ P.length := by rw [hP]; unfold gmoreF; simp; omega
  have hPc : mc.parts.length ≤ P.length := by rw [hP]; unfold gmoreF; simp
  have hmp : m.parts = P := by rw [hm]; exact gm.parts
  have fc : FlatM mc := by rw [hmc]; exact (flat_level (flat_begin (m := gbeginF p (2 + pickF p 0 % 16 % 3) ⟨#[]⟩) (by simp [gbeginF]) rfl rfl rfl) 3).1
  have fx : FlatM mx := by rw [hmx]; exact (flat_level (flat_begin (m := gbeginF q (2 + pickF q 0 % 16 % 3) ⟨#[120]⟩) (by simp [gbeginF]) rfl rfl rfl) 3).1
  have fm : FlatM m := by rw [hm]; exact (flat_level (flat_begin (m := ⟨q, 5, 0, P, [], [], [], ⟨#[121]⟩⟩) (show 2 ≤ P.length by omega) rfl rfl rfl) 1).1
  have sc : OneSE mc.items ∧ ∀ x ∈ mc.items, x.kind ≠ 3 → x.loop = false := by rw [hmc]; exact se_level rfl 3
  have sx : OneSE mx.items ∧ ∀ x ∈ mx.items, x.kind ≠ 3 → x.loop = false := by rw [hmx]; exact se_level rfl 3
  have sm : OneSE m.items ∧ ∀ x ∈ m.items, x.kind ≠ 3 → x.loop = false := by rw [hm]; exact se_level rfl 1
  obtain ⟨kc, _, prc⟩ := key_make p ⟨#[]⟩ low_nil
  obtain ⟨kx, _, prx⟩ := key_make q ⟨#[120]⟩ low_x
  obtain ⟨km, _, prm⟩ := key_in q P
  rw [← hmc] at kc prc
  rw [← hmx] at kx prx
  rw [← hm] at km prm
  -- whom the call's participants stand for
  have hms2 : ms = (List.range mx.parts.length).map (fun i => (⟨(⟨#[120]⟩ : ByteArray) ++ gpn i, gpn ((i + pickF q 1) % P.length)⟩ : MapD)) := by
    rw [hms]
    show (List.range x.parts.length).map _ = _
    rw [xp]
    refine List.map_congr_left (fun i hi => ?_)
    have hi := List.mem_range.1 hi
    have e1 := (part_gpn hxp hi).1
    have e2 := (part_gpn (l := P) (pre := ⟨#[]⟩) (N := N) (by rw [hPN]; exact (List.map_congr_left (fun i _ => em_app _)).symm) (a := (i + pickF q 1) % P.length) (Nat.mod_lt _ (by omega))).1
    rw [em_app] at e2
    rw [e1, e2]
  have hwho : ∀ a, a < mx.parts.length → whoF ms ((⟨#[120]⟩ : ByteArray) ++ gpn a) = gpn ((a + pickF q 1) % P.length) := fun a ha => by
    rw [hms2]
    exact who_at (fun i => gpn ((i + pickF q 1) % P.length)) (fun i => (⟨#[120]⟩ : ByteArray) ++ gpn i) (fun i j hi hj e => gpn_inj i hi j hj (append_left_inj e)) mx.parts.length a ha (by omega)
  obtain ⟨c, hc⟩ : ∃ c : ChorD, c = ⟨sC, P, mc.flows ++ m.flows ++ x.flows.map (flowF sPath ms), mc.items ++ [calledF x ms, gsubF m], sq⟩ := ⟨_, rfl⟩
  have hwant : wantC ⟨sC, P, mc.flows ++ m.flows, mc.items ++ [callX ms, gsubF m], sq⟩ x = c := by
    rw [hc]
    unfold wantC
    simp only
    obtain ⟨e1, e2⟩ := plain_kinds pc.items x
    rw [List.map_append, List.flatMap_append, e1, e2]
    have e3 : ([callX ms, gsubF m].map (wantI x)) = [calledF x ms, gsubF m] := rfl
    have e4 : ([callX ms, gsubF m].flatMap (wantFl x)) = x.flows.map (flowF sPath ms) := by
      rw [List.flatMap_cons, List.flatMap_cons, List.flatMap_nil]
      show x.flows.map (flowF sPath ms) ++ ([] ++ []) = _
      simp
    rw [e3, e4]
    simp
  rw [hwant]
  obtain ⟨ps, hps⟩ : ∃ l, l = P.map (·.id) := ⟨_, rfl⟩
  have hps2 : ps = (List.range N).map gpn := by rw [hps, hPN]
  have e1 : c.items = mc.items ++ [calledF x ms, gsubF m] := by rw [hc]
  have e2 : c.flows = mc.flows ++ m.flows ++ x.flows.map (flowF sPath ms) := by rw [hc]
  have e3 : c.parts.map (·.id) = ps := by rw [hc, hps]
  have e4 : c.seqs = sq := by rw [hc]
  have e5 : (calledF x ms).items = x.items.map (movedF sPath ms) := rfl
  have e6 : (calledF x ms).seqs = x.seqs.map (seqF sPath) := rfl
  -- message flows
  have hok : FlowOk ps c.flows := by
    intro f hf
    rw [e2] at hf
    rcases List.mem_append.1 hf with hf | hf
    · rcases List.mem_append.1 hf with hf | hf
      · obtain ⟨_, a, b, ha, hb, hne, s1, s2⟩ := fc.flows f hf
        obtain ⟨t1, u1⟩ := part_gpn (l := mc.parts) (pre := ⟨#[]⟩) (by rw [hcp]; exact (List.map_congr_left (fun i _ => em_app _)).symm) ha
        obtain ⟨t2, u2⟩ := part_gpn (l := mc.parts) (pre := ⟨#[]⟩) (by rw [hcp]; exact (List.map_congr_left (fun i _ => em_app _)).symm) hb
        rw [em_app] at t1 t2
        rw [s1, s2]
        unfold gpart
        rw [t1, t2]
        exact ⟨gpn_sub hps2 (by omega), gpn_sub hps2 (by omega), fun e => hne (gpn_inj a (by omega) b (by omega) e)⟩
      · obtain ⟨_, a, b, ha, hb, hne, s1, s2⟩ := fm.flows f hf
        rw [hmp] at ha hb
        obtain ⟨t1, u1⟩ := part_gpn (l := P) (pre := ⟨#[]⟩) (by rw [hPN]; exact (List.map_congr_left (fun i _ => em_app _)).symm) ha
        obtain ⟨t2, u2⟩ := part_gpn (l := P) (pre := ⟨#[]⟩) (by rw [hPN]; exact (List.map_congr_left (fun i _ => em_app _)).symm) hb
        rw [em_app] at t1 t2
        rw [s1, s2]
        unfold gpart
        rw [hmp, t1, t2]
        exact ⟨gpn_sub hps2 u1, gpn_sub hps2 u2, fun e => hne (gpn_inj a (by omega) b (by omega) e)⟩
    · obtain ⟨g, hg, rfl⟩ := List.mem_map.1 hf
      rw [xf] at hg
      obtain ⟨_, a, b, ha, hb, hne, s1, s2⟩ := fx.flows g hg
      obtain ⟨t1, u1⟩ := part_gpn hxp ha
      obtain ⟨t2, u2⟩ := part_gpn hxp hb
      have w1 : (flowF sPath ms g).src = gpn ((a + pickF q 1) % P.length) := by
        show whoF ms g.src = _
        rw [s1]
        unfold gpart
        rw [t1, hwho a ha]
      have w2 : (flowF sPath ms g).dst = gpn ((b + pickF q 1) % P.length) := by
        show whoF ms g.dst = _
        rw [s2]
        unfold gpart
        rw [t2, hwho b hb]
      rw [w1, w2]
      have l1 : (a + pickF q 1) % P.length < N := by rw [← hPl]; exact Nat.mod_lt _ (by omega)
      have l2 : (b + pickF q 1) % P.length < N := by rw [← hPl]; exact Nat.mod_lt _ (by omega)
      refine ⟨gpn_sub hps2 l1, gpn_sub hps2 l2, fun e => ?_⟩
      have e := gpn_inj _ (by omega) _ (by omega) e
      rcases Nat.lt_or_ge a b with h | h
      · exact mod_inj hPx ha hb h e
      · exact mod_inj hPx hb ha (by omega) e.symm
  -- tasks
  have tc : ∀ y ∈ mc.items, y.kind = 3 → TaskH c.flows y := fun y hy h3 => (flatM_task fc hy h3).more (fun z hz => by rw [e2]; exact List.mem_append_left _ (List.mem_append_left _ hz))
  have tm : ∀ y ∈ m.items, y.kind = 3 → TaskH c.flows y := fun y hy h3 => (flatM_task fm hy h3).more (fun z hz => by rw [e2]; exact List.mem_append_left _ (List.mem_append_right _ hz))
  have tx : ∀ y ∈ x.items.map (movedF sPath ms), y.kind = 3 → TaskH c.flows y := fun y hy h3 => by
    obtain ⟨z, hz, rfl⟩ := List.mem_map.1 hy
    rw [xi] at hz
    obtain ⟨h1, h2⟩ := flatM_task fx hz h3
    have hfl : (movedF sPath ms z).flows = z.flows.map (sPath ++ ·) := rfl
    refine ⟨by rw [hfl, List.length_map]; exact h1, fun f hf => ?_⟩
    rw [hfl] at hf
    obtain ⟨g, hg, rfl⟩ := List.mem_map.1 hf
    obtain ⟨w, hw, e⟩ := h2 g hg
    refine ⟨flowF sPath ms w, ?_, by show sPath ++ w.id = _; rw [e]⟩
    rw [e2, xf]
    exact List.mem_append_right _ (List.mem_map.2 ⟨w, hw, rfl⟩)
  have k5c : ∀ y ∈ mc.items, y.kind ≠ 7 := fun y hy => by have := (pc.items y hy).kind; omega
  have k5m : ∀ y ∈ m.items, y.kind ≠ 7 := fun y hy => by have := (pm.items y hy).kind; omega
  have k5x : ∀ y ∈ x.items.map (movedF sPath ms), y.kind ≠ 7 := fun y hy => by
    obtain ⟨z, hz, rfl⟩ := List.mem_map.1 hy
    rw [xi] at hz
    have := (px.items z hz).kind
    show z.kind ≠ 7
    omega
  have kcx : ∀ k, kindC k (x.items.map (movedF sPath ms)) = kindC k x.items := fun k => by
    unfold kindC
    rw [List.filter_map, List.length_map]
    rfl
  have hS1 : OneSE (calledF x ms).items := by
    refine ⟨?_, ?_⟩
    · rw [e5, kcx, xi]; exact sx.1.1
    · rw [e5, kcx, xi]; exact sx.1.2
  have lvx : LvlN ps c.flows 1 (calledF x ms).items (calledF x ms).seqs := by
    unfold LvlN
    rw [e5, e6]
    refine ⟨fun y hy h3 => taskN_of hok (tx y hy h3), fun y hy h7 => absurd h7 (k5x y hy), fun y hy _ => ?_, fun s hs => ?_⟩
    · obtain ⟨z, hz, rfl⟩ := List.mem_map.1 hy
      exact ⟨rfl, rfl⟩
    · obtain ⟨s0, hs0, rfl⟩ := List.mem_map.1 hs
      rw [xs] at hs0
      obtain ⟨⟨a, ha, ea⟩, ⟨b, hb, eb⟩⟩ := fx.seqs s0 hs0
      rw [xi]
      exact ⟨⟨movedF sPath ms a, List.mem_map.2 ⟨a, ha, rfl⟩, by show sPath ++ a.id = sPath ++ s0.src; rw [ea]⟩, ⟨movedF sPath ms b, List.mem_map.2 ⟨b, hb, rfl⟩, by show sPath ++ b.id = sPath ++ s0.dst; rw [eb]⟩⟩
  have lvm : LvlN ps c.flows 1 (gsubF m).items (gsubF m).seqs := by
    unfold LvlN
    show (∀ y ∈ m.items, _) ∧ (∀ y ∈ m.items, _) ∧ (∀ y ∈ m.items, _) ∧ ∀ s ∈ m.seqs, _
    refine ⟨fun y hy h3 => taskN_of hok (tm y hy h3), fun y hy h7 => absurd h7 (k5m y hy), fun y hy _ => ⟨(pm.items y hy).items, (pm.items y hy).seqs⟩, fun s hs => fm.seqs s hs⟩
  have hseq : ∀ s ∈ sq, (∃ y ∈ c.items, y.id = s.src) ∧ ∃ y ∈ c.items, y.id = s.dst := by
    have hin : ∀ a, HasI mc a → ∃ y ∈ c.items, y.id = a := fun a ⟨y, hy, e⟩ => ⟨y, by rw [e1]; exact List.mem_append_left _ hy, e⟩
    have hcall : ∃ y ∈ c.items, y.id = gcallS := ⟨calledF x ms, by rw [e1]; simp, rfl⟩
    have hsub : ∃ y ∈ c.items, y.id = gsubS := ⟨gsubF m, by rw [e1]; simp, rfl⟩
    have hne : mc.seqs ≠ [] := fun e => by rw [e] at lc; simp at lc
    have hlast : mc.seqs.getLastD ⟨⟨#[]⟩, ⟨#[]⟩, ⟨#[]⟩⟩ ∈ mc.seqs := by
      rw [List.getLastD_eq_getLast?, List.getLast?_eq_some_getLast hne]
      exact List.getLast_mem hne
    obtain ⟨q1, q2⟩ := fc.seqs _ hlast
    intro s hs
    rw [hsq] at hs
    unfold gseqsF at hs
    rcases List.mem_append.1 hs with hs | hs
    · obtain ⟨a, b⟩ := fc.seqs s (List.dropLast_subset _ hs)
      exact ⟨hin _ a, hin _ b⟩
    · simp only [List.mem_cons, List.not_mem_nil, or_false] at hs
      rcases hs with rfl | rfl | rfl
      · exact ⟨hin _ q1, hcall⟩
      · exact ⟨hcall, hsub⟩
      · exact ⟨hsub, hin _ q2⟩
  have hlvl : LvlN ps c.flows 2 c.items c.seqs := by
    unfold LvlN
    rw [e1, e4]
    refine ⟨fun y hy h3 => ?_, fun y hy h7 => ?_, fun y hy h7 => ?_, fun s hs => by rw [← e1]; exact hseq s hs⟩
    · rcases List.mem_append.1 hy with hy | hy
      · exact taskN_of hok (tc y hy h3)
      · simp only [List.mem_cons, List.not_mem_nil, or_false] at hy
        rcases hy with rfl | rfl
        · exact absurd (show (7 : Int) = 3 from h3) (by decide)
        · exact absurd (show (7 : Int) = 3 from h3) (by decide)
    · rcases List.mem_append.1 hy with hy | hy
      · exact absurd h7 (k5c y hy)
      · simp only [List.mem_cons, List.not_mem_nil, or_false] at hy
        rcases hy with rfl | rfl
        · exact ⟨lvx, hS1⟩
        · exact ⟨lvm, sm.1⟩
    · rcases List.mem_append.1 hy with hy | hy
      · exact ⟨(pc.items y hy).items, (pc.items y hy).seqs⟩
      · simp only [List.mem_cons, List.not_mem_nil, or_false] at hy
        rcases hy with rfl | rfl
        · exact absurd (show (7 : Int) = 7 from rfl) h7
        · exact absurd (show (7 : Int) = 7 from rfl) h7
  -- nodes
  have hL : ∀ b, levL b c.items = mc.items.map (fun y => withK y (nodeK b y.kind)) ++ ((x.items.map (movedF sPath ms)).map (fun y => withK y (nodeK true y.kind)) ++ m.items.map (fun y => withK y (nodeK true y.kind))) := fun b => by
    rw [e1, levL_append, levL_plain b k5c, levL, levL, levL, List.append_nil, levI_eq, levI_eq, if_pos (show (calledF x ms).kind = 7 from rfl), if_pos (show (gsubF m).kind = 7 from rfl), e5, levL_plain true k5x, levL_plain true (l := (gsubF m).items) k5m]
    rfl
  have hids : ((levL false c.items).map (·.id)).Nodup := by
    rw [hL, List.map_append, List.map_append, map_withK_id, map_withK_id, map_withK_id]
    have n1 := key_nodup kc
    have n2 : ((x.items.map (movedF sPath ms)).map (·.id)).Nodup := by
      have e : (x.items.map (movedF sPath ms)).map (·.id) = (mx.items.map (·.id)).map (sPath ++ ·) := by rw [xi, List.map_map, List.map_map]; rfl
      rw [e]
      exact pre_nodup sPath (key_nodup kx)
    have n3 := key_nodup km
    have z1 : ∀ a ∈ mc.items.map (·.id), a.size = 3 := fun a ha => by
      obtain ⟨y, hy, rfl⟩ := List.mem_map.1 ha
      rw [(kc.items y hy).2.1, prc]; rfl
    have z2 : ∀ a ∈ (x.items.map (movedF sPath ms)).map (·.id), a.size = 9 := fun a ha => by
      obtain ⟨y, hy, rfl⟩ := List.mem_map.1 ha
      obtain ⟨z, hz, rfl⟩ := List.mem_map.1 hy
      rw [xi] at hz
      show (sPath ++ z.id).size = 9
      rw [ByteArray.size_append, (kx.items z hz).2.1, prx]; rfl
    have z3 : ∀ a ∈ m.items.map (·.id), a.size = 4 := fun a ha => by
      obtain ⟨y, hy, rfl⟩ := List.mem_map.1 ha
      rw [(km.items y hy).2.1, prm]; rfl
    refine List.nodup_append.2 ⟨n1, List.nodup_append.2 ⟨n2, n3, fun a ha b hb e => ?_⟩, fun a ha b hb e => ?_⟩
    · have h1 := z2 a ha
      have h2 := z3 b hb
      rw [e] at h1; omega
    · have h1 := z1 a ha
      rcases List.mem_append.1 hb with hb | hb
      · have h2 := z2 b hb
        rw [e] at h1; omega
      · have h2 := z3 b hb
        rw [e] at h1; omega
  have hmem : ∀ y ∈ levL false c.items, ∃ z, (z ∈ mc.items ∨ z ∈ x.items.map (movedF sPath ms) ∨ z ∈ m.items) ∧ y.loop = z.loop ∧ y.flows = z.flows ∧ (z.kind = 3 ↔ y.kind = 3) := fun y hy => by
    have nk : ∀ b k, nodeK b k = 3 ↔ k = 3 := fun b k => by
      unfold nodeK
      split
      · rename_i h; omega
      · exact Iff.rfl
    rw [hL] at hy
    rcases List.mem_append.1 hy with hy | hy
    · obtain ⟨z, hz, rfl⟩ := List.mem_map.1 hy
      exact ⟨z, .inl hz, rfl, rfl, (nk false z.kind).symm⟩
    · rcases List.mem_append.1 hy with hy | hy
      · obtain ⟨z, hz, rfl⟩ := List.mem_map.1 hy
        exact ⟨z, .inr (.inl hz), rfl, rfl, (nk true z.kind).symm⟩
      · obtain ⟨z, hz, rfl⟩ := List.mem_map.1 hy
        exact ⟨z, .inr (.inr hz), rfl, rfl, (nk true z.kind).symm⟩
  have hlen : ∀ b, (levL b c.items).length ≤ 1000 := fun b => by
    rw [hL, List.length_append, List.length_append, List.length_map, List.length_map, List.length_map, List.length_map, xi]
    omega
  refine ⟨by rw [e3]; exact hlvl, hids, fun y hy h3 => ?_, fun y hy h3 => ?_, ?_, ?_, ?_, ?_, hlen, ?_, fun y hy => ?_⟩
  · obtain ⟨z, hz, r1, _, r3⟩ := hmem y hy
    rw [r1]
    have hz3 : z.kind ≠ 3 := fun e => h3 (r3.1 e)
    rcases hz with hz | hz | hz
    · exact sc.2 z hz hz3
    · obtain ⟨w, hw, rfl⟩ := List.mem_map.1 hz
      rw [xi] at hw
      exact sx.2 w hw hz3
    · exact sm.2 z hz hz3
  · obtain ⟨z, hz, _, r2, r3⟩ := hmem y hy
    rw [r2]
    have hz3 : z.kind = 3 := r3.2 h3
    rcases hz with hz | hz | hz
    · exact (tc z hz hz3).1
    · exact (tx z hz hz3).1
    · exact (tm z hz hz3).1
  · rw [hc]; show P.length ≤ 1000; omega
  · rw [e2, List.length_append, List.length_append, List.length_map, xf]; omega
  · rw [e1, List.length_append]; simp; omega
  · rw [e4, hsq]; unfold gseqsF; simp; omega
  · rw [e1, edgIs_append, edgIs_none (fun z hz => ⟨(pc.items z hz).items, (pc.items z hz).seqs⟩), edgIs, edgIs, edgIs, edgI_eq, edgI_eq]
    unfold edgL
    rw [edgIs_none (l := (calledF x ms).items) (fun z hz => by
      rw [e5] at hz
      obtain ⟨w, _, rfl⟩ := List.mem_map.1 hz
      exact ⟨rfl, rfl⟩), edgIs_none (l := (gsubF m).items) (fun z hz => ⟨(pm.items z hz).items, (pm.items z hz).seqs⟩), e6]
    show _ ≤ 1000
    have : (gsubF m).seqs = m.seqs := rfl
    rw [this]
    simp only [List.nil_append, List.append_nil, List.length_append, List.length_map, xs]
    omega
  · rw [e1] at hy
    rcases List.mem_append.1 hy with hy | hy
    · have hp := pc.items y hy
      rw [hp.items, hp.seqs]
      exact ⟨by simp, by simp, fun b => by rw [levL]; simp, fun z hz => by cases hz⟩
    · simp only [List.mem_cons, List.not_mem_nil, or_false] at hy
      rcases hy with rfl | rfl
      · refine ⟨by rw [e5, List.length_map, xi]; omega, by rw [e6, List.length_map, xs]; omega, fun b => by rw [e5, levL_plain b k5x, List.length_map, List.length_map, xi]; omega, fun z hz => ?_⟩
        rw [e5] at hz
        refine ⟨k5x z hz, ?_⟩
        obtain ⟨w, _, rfl⟩ := List.mem_map.1 hz
        exact ⟨rfl, rfl⟩
      · refine ⟨by show m.items.length ≤ _; omega, by show m.seqs.length ≤ _; omega, fun b => by rw [levL_plain b (l := (gsubF m).items) k5m, List.length_map]; show m.items.length ≤ _; omega, fun z hz => ⟨k5m z hz, (pm.items z hz).items, (pm.items z hz).seqs⟩⟩
end Go.Proofs.Yteoioboiniealaa
namespace Go.Proofs.Yteoioboiniealaa
open Go.RowKit

set_option maxHeartbeats 1000000 in
theorem same_texts {w : World} {v1 v2 : Value} {l : List ByteArray} (h1 : Rd w (strsD l) v1) (h2 : Rd w (strsD l) v2) :
    Calls Try.prog 36 #[v1, v2] w fun e w' => e = .returned (.bool true) ∧ Below w.heap.size w w' := by
  obtain ⟨A1, c1, rfl, hlc1, hcm1, hat1⟩ := rd_at strC_len h1
  obtain ⟨A2, c2, rfl, hlc2, hcm2, hat2⟩ := rd_at strC_len h2
  have hmx : l.length ≤ maxLen := by omega
  unfold maxLen at hmx
  have HAT1 := Lib.hid hat1
  have HAT2 := Lib.hid hat2
  clear hat1 hat2 h1 h2 hcm1 hcm2
  go_enter Try.func36, Try.ntmps36
  go_wp2_with fail
  go_loopw [5] (fun v wr => ∃ k : Nat, k ≤ l.length ∧ v = .int .i64 k ∧ Below w.heap.size w wr) (fun v _ => l.length - (intOf v).toNat)
  case atStart => exact ⟨0, Nat.zero_le _, rfl, Below.refl _ _⟩
  case round =>
    obtain ⟨k, hk, rfl, hB⟩ := hrel
    have HB := Lib.hid hB
    have hsz := hB.size
    clear hB
    by_cases hlt : k < l.length
    · obtain ⟨b1, vs1, rfl, hbl1, _, hvs1, hcell1⟩ := HAT1.out k hlt
      obtain ⟨b2, vs2, rfl, hbl2, _, hvs2, hcell2⟩ := HAT2.out k hlt
      generalize l[k] = x at *
      obtain rfl := rd_strC hvs1
      obtain rfl := rd_strC hvs2
      have x0 : wr.cell? ⟨b1, k, none⟩ = some (.string x) := (HB.out.cell (p := ⟨b1, k, none⟩) hbl1).trans (by have := hcell1 0 (by omega); simpa using this)
      have z0 : wr.cell? ⟨b2, k, none⟩ = some (.string x) := (HB.out.cell (p := ⟨b2, k, none⟩) hbl2).trans (by have := hcell2 0 (by omega); simpa using this)
      clear hcell1 hcell2 hvs1 hvs2
      go_upto_region 6 with fail
      go_quiet (fail)
      go_wp2_with fail
      go_roundw
      case rel => exact ⟨k + 1, by omega, by go_num, below_drewN HB.out _⟩
      case measure => simp [intOf]; omega
    · go_wp2_with fail
      go_ret
      exact ⟨rfl, HB.out⟩
end Go.Proofs.Yteoioboiniealaa
namespace Go.Proofs.Yteoioboiniealaa
open Go.RowKit

theorem addM_len (ms : List ByteArray) (m : ByteArray) : (addM ms m).length ≤ ms.length + 1 := by
  unfold addM
  split
  · simp
  · omega
theorem nodeOf_len (ps : List ByteArray) (fl : List FlowD) (x : ItemD) (ms : List ByteArray) : (nodeOf ps fl x ms).2.length ≤ ms.length + 2 := by
  unfold nodeOf
  split
  · have h2 : ∀ a b, (addM (addM ms a) b).length ≤ ms.length + 2 := fun a b => by
      have h1 := addM_len (addM ms a) b
      have h2 := addM_len ms a
      omega
    split
    · exact Nat.le_add_right _ _
    · exact Nat.le_trans (addM_len _ _) (by omega)
    · exact h2 _ _
  · exact Nat.le_add_right _ _
theorem nodesOf_msgs (ps : List ByteArray) (fl : List FlowD) : ∀ (l : List ItemD) (ms : List ByteArray), (nodesOf ps fl l ms).2.length ≤ ms.length + 2 * l.length
  | [], ms => by simp [nodesOf]
  | x :: l, ms => by
    show (nodesOf ps fl l (nodeOf ps fl x ms).2).2.length ≤ _
    rw [List.length_cons]
    have h1 := nodesOf_msgs ps fl l (nodeOf ps fl x ms).2
    have h2 := nodeOf_len ps fl x ms
    omega
/-- The node that is wanted, and the messages, behind so many message flows. -/
def wantT (ps : List ByteArray) (fl : List FlowD) (x : ItemD) (ms : List ByteArray) : Nat → NodeD × List ByteArray
  | 0 => (⟨x.kind, x.id, 0, 0, 0, -1, x.loop⟩, ms)
  | t + 1 =>
    if t = 0 then (⟨x.kind, x.id, placeF ps (lflowF (x.flows.getD t ⟨#[]⟩) fl).src, placeF ps (lflowF (x.flows.getD t ⟨#[]⟩) fl).dst, placeF (addM (wantT ps fl x ms t).2 (lflowF (x.flows.getD t ⟨#[]⟩) fl).msg) (lflowF (x.flows.getD t ⟨#[]⟩) fl).msg, (wantT ps fl x ms t).1.reply, x.loop⟩, addM (wantT ps fl x ms t).2 (lflowF (x.flows.getD t ⟨#[]⟩) fl).msg)
    else (⟨x.kind, x.id, (wantT ps fl x ms t).1.src, (wantT ps fl x ms t).1.dst, (wantT ps fl x ms t).1.msg, placeF (addM (wantT ps fl x ms t).2 (lflowF (x.flows.getD t ⟨#[]⟩) fl).msg) (lflowF (x.flows.getD t ⟨#[]⟩) fl).msg, x.loop⟩, addM (wantT ps fl x ms t).2 (lflowF (x.flows.getD t ⟨#[]⟩) fl).msg)
theorem wantT_all {ps : List ByteArray} {fl : List FlowD} {x : ItemD} {ms : List ByteArray} (h3 : x.kind = 3) (hl : 1 ≤ x.flows.length ∧ x.flows.length ≤ 2) : wantT ps fl x ms x.flows.length = nodeOf ps fl x ms := by
  unfold nodeOf
  rw [if_pos h3]
  match hq : x.flows with
  | [] => rw [hq] at hl; simp at hl
  | [f] =>
    show wantT ps fl x ms 1 = _
    rw [wantT, if_pos rfl, wantT, hq, h3]
    rfl
  | [f, g] =>
    show wantT ps fl x ms 2 = _
    rw [wantT, if_neg (by decide), wantT, if_pos rfl, wantT, hq, h3]
    rfl
  | _ :: _ :: _ :: _ => rw [hq] at hl; simp at hl
theorem wantT_kind (ps : List ByteArray) (fl : List FlowD) (x : ItemD) (ms : List ByteArray) : ∀ t, (wantT ps fl x ms t).1.kind = x.kind ∧ (wantT ps fl x ms t).1.id = x.id ∧ (wantT ps fl x ms t).1.loop = x.loop
  | 0 => ⟨rfl, rfl, rfl⟩
  | t + 1 => by
    rw [wantT]
    split <;> exact ⟨rfl, rfl, rfl⟩
theorem nodeOf_facts (ps : List ByteArray) (fl : List FlowD) (x : ItemD) (ms : List ByteArray) (hl : x.kind ≠ 3 → x.loop = false) : (nodeOf ps fl x ms).1.kind = x.kind ∧ (nodeOf ps fl x ms).1.id = x.id ∧ (nodeOf ps fl x ms).1.loop = x.loop ∧ (x.kind ≠ 3 → (nodeOf ps fl x ms).1.src = -1 ∧ (nodeOf ps fl x ms).1.dst = -1 ∧ (nodeOf ps fl x ms).1.msg = -1 ∧ (nodeOf ps fl x ms).1.reply = -1 ∧ (nodeOf ps fl x ms).2 = ms) := by
  unfold nodeOf
  by_cases h3 : x.kind = 3
  · rw [if_pos h3]
    split <;> exact ⟨h3.symm, rfl, rfl, fun h => absurd h3 h⟩
  · rw [if_neg h3]
    exact ⟨rfl, rfl, (hl h3).symm, fun _ => ⟨rfl, rfl, rfl, rfl, rfl⟩⟩
mutual
/-- What reads has all its blocks in memory. -/
theorem Rd.allQ {w : World} : ∀ (d : Dat) (v : Value), Rd w d v → RdP (fun b => b < w.heap.size) w d v
  | .int _, _, h => by unfold Rd at h; unfold RdP; exact h
  | .str _, _, h => by unfold Rd at h; unfold RdP; exact h
  | .bool _, _, h => by unfold Rd at h; unfold RdP; exact h
  | .sl _ _ _ ds, v, h => by
    unfold Rd at h
    unfold RdP
    obtain ⟨A, c, xs, hv, ho, hl⟩ := h
    subst hv
    exact ⟨A, c, xs, rfl, ho, fun b hb => (ho.lt b hb).2, RdL.allQ ds xs hl⟩
theorem RdL.allQ {w : World} : ∀ (ds : List Dat) (xs : List Value), RdL w ds xs → RdPL (fun b => b < w.heap.size) w ds xs
  | [], _, h => by unfold RdL at h; unfold RdPL; exact h
  | d :: ds, xs, h => by
    unfold RdL at h
    unfold RdPL
    obtain ⟨v, r, hx, hd, hl⟩ := h
    exact ⟨v, r, hx, Rd.allQ d v hd, RdL.allQ ds r hl⟩
end
theorem rd_nodeC {w : World} {x : NodeD} {vs : List Value} (h : RdL w (nodeC x) vs) : vs = nodeV x := by
  unfold nodeC at h
  obtain ⟨_, _, rfl, h0, h⟩ := rdl_cons.1 h
  obtain ⟨_, _, rfl, h1, h⟩ := rdl_cons.1 h
  obtain ⟨_, _, rfl, h2, h⟩ := rdl_cons.1 h
  obtain ⟨_, _, rfl, h3, h⟩ := rdl_cons.1 h
  obtain ⟨_, _, rfl, h4, h⟩ := rdl_cons.1 h
  obtain ⟨_, _, rfl, h5, h⟩ := rdl_cons.1 h
  obtain ⟨_, _, rfl, h6, h⟩ := rdl_cons.1 h
  obtain rfl := rdl_nil.1 h
  rw [rd_int.1 h0, rd_str.1 h1, rd_int.1 h2, rd_int.1 h3, rd_int.1 h4, rd_int.1 h5, rd_bool.1 h6]
  rfl
theorem rd_edgeC {w : World} {x : Int × Int} {vs : List Value} (h : RdL w (edgeC x) vs) : vs = [.int .i64 x.1, .int .i64 x.2] := by
  unfold edgeC at h
  obtain ⟨_, _, rfl, h0, h⟩ := rdl_cons.1 h
  obtain ⟨_, _, rfl, h1, h⟩ := rdl_cons.1 h
  obtain rfl := rdl_nil.1 h
  rw [rd_int.1 h0, rd_int.1 h1]
/-- Names and messages so far, each in a row of the call's own. -/
structure LpW (wB : World) (nm ms : List ByteArray) (n k : Nat) (vn vm : Value) (W : World) : Prop where
  bel : Below wB.heap.size wB W
  on : W.ownsRow wB.heap.size 9 1 vn n (nm.map .string)
  om : W.ownsRow wB.heap.size 9 1 vm k (ms.map .string)
  ne : ∀ b, vn.ownBlock = some b → vm.ownBlock ≠ some b
section
variable {wB W W1 : World} {nm ms : List ByteArray} {n k : Nat} {vn vm : Value}
theorem LpW.below (h : LpW wB nm ms n k vn vm W) (hb : Below W.heap.size W W1) : LpW wB nm ms n k vn vm W1 := ⟨h.bel.trans (hb.mono h.bel.size), own_below h.on hb, own_below h.om hb, h.ne⟩
/-- Another block of the call's own is written. -/
theorem LpW.set_ (h : LpW wB nm ms n k vn vm W) {g : Nat} {t : TypeId} {cs : Array Value} (hb : Blk W g t cs) (ht : 9 ≠ t) (hg : wB.heap.size ≤ g) (i : Nat) (u : Value) : LpW wB nm ms n k vn vm (W.setCell ⟨g, i, none⟩ u) :=
  ⟨h.bel.setCell (p := ⟨g, i, none⟩) hg u, ownsRow_setCell_other (a := ⟨g, i, none⟩) h.on (blk_own_ne h.on hb ht) u, ownsRow_setCell_other (a := ⟨g, i, none⟩) h.om (blk_own_ne h.om hb ht) u, h.ne⟩
/-- A name more. -/
theorem LpW.name {o : Obj} {s : ByteArray} {gA cap : Nat} (h : LpW wB nm ms n k vn vm W)
    (hown : W1.ownsRow wB.heap.size 9 1 (.slice (some ⟨gA, 0, none⟩) (n + 1) cap) (n + 1) (nm.map .string ++ [.string s])) (hgrow : (W.alloc o).grownBy W1 vn.ownBlock) (hat : vn.ownBlock = some gA ∨ gA = W.heap.size + 1) :
    LpW wB (nm ++ [s]) ms (n + 1) k (.slice (some ⟨gA, 0, none⟩) (n + 1) cap) vm W1 := by
  have hsz := h.bel.size
  have ha : Below W.heap.size W (W.alloc o) := (Below.refl _ _).alloc (Nat.le_refl _) o
  refine ⟨h.bel.trans ((ha.mono hsz).grown hgrow (by simp; omega) (fun b hb => (h.on.lt b hb).1)), by rw [List.map_append]; exact hown, ?_, fun b hb => ?_⟩
  · refine (own_below h.om ha).kept hgrow ?_
    cases hv : vm.ownBlock with
    | none => exact .inl rfl
    | some q => exact .inr (fun e => h.ne q e.symm hv)
  · have e : gA = b := by simpa [Value.ownBlock] using hb
    subst e
    rcases hat with h1 | h1
    · exact h.ne gA h1
    · intro e2
      have := (h.om.lt gA e2).2
      omega
/-- A message more. -/
theorem LpW.mess {o : Obj} {s : ByteArray} {gA cap : Nat} (h : LpW wB nm ms n k vn vm W)
    (hown : W1.ownsRow wB.heap.size 9 1 (.slice (some ⟨gA, 0, none⟩) (k + 1) cap) (k + 1) (ms.map .string ++ [.string s])) (hgrow : (W.alloc o).grownBy W1 vm.ownBlock) (hat : vm.ownBlock = some gA ∨ gA = W.heap.size + 1) :
    LpW wB nm (ms ++ [s]) n (k + 1) vn (.slice (some ⟨gA, 0, none⟩) (k + 1) cap) W1 := by
  have hsz := h.bel.size
  have ha : Below W.heap.size W (W.alloc o) := (Below.refl _ _).alloc (Nat.le_refl _) o
  refine ⟨h.bel.trans ((ha.mono hsz).grown hgrow (by simp; omega) (fun b hb => (h.om.lt b hb).1)), ?_, by rw [List.map_append]; exact hown, fun b hb hb2 => ?_⟩
  · refine (own_below h.on ha).kept hgrow ?_
    cases hv : vn.ownBlock with
    | none => exact .inl rfl
    | some q => exact .inr (fun e => h.ne q hv e.symm)
  · have e : gA = b := by simpa [Value.ownBlock] using hb2
    subst e
    rcases hat with h1 | h1
    · exact h.ne gA hb h1
    · have := (h.on.lt gA hb).2
      omega
end
/-- A row of texts reads as such. -/
theorem rd_texts {W : World} {B n : Nat} {v : Value} {l : List ByteArray} (h : W.ownsRow B 9 1 v n (l.map .string)) (hn : l.length = n) : Rd W (strsD l) v := by
  subst hn
  exact rd_of_strs h
end Go.Proofs.Yteoioboiniealaa
