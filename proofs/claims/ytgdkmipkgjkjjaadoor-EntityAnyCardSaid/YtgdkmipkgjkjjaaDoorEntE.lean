/- The contract of entity.Open. -/
import Derived.Test.YtgdkmipkgjkjjaaDoorEntD
namespace Go.Proofs.YtgdkmipkgjkjjaaDoor
open Go.RowKit

theorem index_lt : ∀ (l : List UInt8) (c : UInt8), 0 ≤ Lib.indexByte l c → Lib.indexByte l c < l.length
  | [], _, h => by simp [Lib.indexByte] at h
  | b :: l, c, h => by
    unfold Lib.indexByte at h ⊢
    by_cases h1 : (b == c) = true
    · rw [if_pos h1]; rw [List.length_cons]; omega
    · rw [if_neg h1] at h ⊢
      by_cases h2 : (Lib.indexByte l c == -1) = true
      · rw [if_pos h2] at h; omega
      · rw [if_neg h2] at h ⊢
        have h3 : Lib.indexByte l c ≠ -1 := by simpa using h2
        have ih := index_lt l c (by omega)
        simp
        omega
theorem index_lo : ∀ (l : List UInt8) (c : UInt8), -1 ≤ Lib.indexByte l c
  | [], _ => by simp [Lib.indexByte]
  | b :: l, c => by
    have ih := index_lo l c
    unfold Lib.indexByte
    (repeat' split) <;> omega
theorem index_amp (r : List UInt8) (h : 0 ≤ Lib.indexByte (38 :: r) 59) : 1 ≤ Lib.indexByte (38 :: r) 59 := by
  have ih := index_lo r 59
  unfold Lib.indexByte at h ⊢
  rw [if_neg (by decide)] at h ⊢
  by_cases h2 : (Lib.indexByte r 59 == -1) = true
  · rw [if_pos h2] at h; omega
  · rw [if_neg h2] at h ⊢
    have h3 : Lib.indexByte r 59 ≠ -1 := by simpa using h2
    omega
theorem own_bel {w w1 : World} {base e size n : Nat} {v : Value} {xs : List Value} (h : w.ownsRow base e size v n xs) (hb : Below w.heap.size w w1) : w1.ownsRow base e size v n xs :=
  h.kept (row := none) ⟨hb.os, hb.tape, hb.output, hb.size, fun i hi _ => hb.block i hi⟩ (by
    cases hv : v.ownBlock with
    | none => exact .inl rfl
    | some q => exact .inr (by simp))
theorem at_below {w w1 : World} {T e : TypeId} {B b : Nat} {p : Value} {bs : List Value} (h : Lib.BuilderAt T e B b p bs w) (hb : Below w.heap.size w w1) : Lib.BuilderAt T e B b p bs w1 := by
  have hlt := h.lt
  obtain ⟨h1, v, h2, h3, h4⟩ := h
  exact ⟨h1, v, (hb.block b hlt).trans h2, own_bel h3 hb, h4⟩
theorem is_below {w w1 : World} {T e : TypeId} {B b : Nat} {bs : List Value} (h : Lib.IsBuilder T e B b bs w) (hb : Below w.heap.size w w1) : Lib.IsBuilder T e B b bs w1 := h.imp (at_below · hb) (at_below · hb)
/-- What the loop has come to. -/
def InOpen (w : World) (s : ByteArray) (k : Nat) (wr : World) : Prop :=
  ∃ out : List UInt8, out.length ≤ 4 * k ∧ openF s.data.toList = openG (s.data.toList.drop k) k out ∧ Lib.IsBuilder 33 5 w.heap.size w.heap.size (Lib.byteCells out) wr ∧ Below w.heap.size w wr
theorem ret_si {a b : ByteArray} {i j : Int} (h : a = b) (g : i = j) : Ending.returned (.tuple #[.string a, .int .i64 i]) = .returned (.tuple #[.string b, .int .i64 j]) := by rw [h, g]
theorem strCells_nums (l : List Int) : Lib.strCells (strOfNums l) = Lib.byteCells (Lib.bytesOf l) := by
  unfold strOfNums
  rfl

set_option maxHeartbeats 2000000 in
theorem open_any (s : ByteArray) (w : World) (hs : s.size ≤ 1000000) (hN : NamesAt w) :
    Calls Tryd.prog 6 #[.string s] w fun e w' => e = .returned (.tuple #[.string (baL (openF s.data.toList).1), .int .i64 (openF s.data.toList).2]) ∧ Below w.heap.size w w' := by
  have HN := Lib.hid hN
  clear hN
  go_enter Tryd.func6, Tryd.ntmps6
  go_wp2_with fail
  go_loopw [5] (fun iv wr => ∃ k : Nat, k ≤ s.size ∧ iv = .int .i64 k ∧ InOpen w s k wr) (fun iv _ => s.size - (intOf iv).toNat)
  case atStart => exact ⟨0, by omega, rfl, [], by simp, rfl, .inl ⟨Nat.le_refl _, _, heap_alloc_new w _, World.ownsRow_nil _ _ _ _, by simp [Value.ownBlock]⟩, (Below.refl _ _).alloc (Nat.le_refl _) _⟩
  case round =>
    obtain ⟨k, hk, rfl, out, hol, hO, hI, hB⟩ := hrel
    have hsz := hB.size
    have HI := Lib.hid hI
    have HB := Lib.hid hB
    have HO := Lib.hid hO
    clear hI hB hO
    by_cases hlt : k < s.size
    · obtain ⟨c, HC, hx, lo, hi, hs0⟩ := byte_of s k hlt
      have hl : k < s.data.toList.length := by simpa using hlt
      have hdr : s.data.toList.drop k = s.data.toList[k] :: s.data.toList.drop (k + 1) := List.drop_eq_getElem_cons hl
      by_cases h38 : c = 38
      · have e38 : s.data.toList[k] = 38 := esc_of hl HC.out 38 h38
        rw [e38] at hdr
        have hO := HO.out
        rw [hdr] at hO
        have hxd : (s.extract k s.size).data.toList = 38 :: s.data.toList.drop (k + 1) := by rw [Lib.extract_data, List.take_of_length_le (by simp), hdr]
        have hix := fun w => Tryd.strings_IndexByte (s.extract k s.size) 59 w
        rw [hxd, show (59 : Int).toNat.toUInt8 = 59 by decide] at hix
        obtain ⟨r, hr⟩ : ∃ r, r = s.data.toList.drop (k + 1) := ⟨_, rfl⟩
        rw [← hr] at hix hO
        obtain ⟨n, hn⟩ : ∃ n, n = Lib.indexByte (38 :: r) 59 := ⟨_, rfl⟩
        rw [← hn] at hix
        have Hix := Lib.hid hix
        have hrl : r.length + (k + 1) = s.size := by rw [hr]; simp; omega
        have hkk : (k : Int) ≤ s.size := by omega
        clear hix hxd hdr e38
        by_cases hn0 : n < 0
        · have hfin := hO.trans (openG_open (by rw [← hn]; exact hn0))
          have Hfin := Lib.hid hfin
          clear hfin hO hn hr
          subst h38
          go_wp2_with fail
          refine (Hix.out _).mono ?_
          rintro e w1 ⟨rfl, rfl⟩
          go_wp2_with fail
          go_ret2
          exact ⟨ret_si (by rw [Hfin.out]; rfl) (by rw [Hfin.out]), HB.out⟩
        · have h1 := index_amp r (by rw [← hn]; omega)
          have h2 := index_lt (38 :: r) 59 (by omega)
          rw [← hn] at h1 h2
          obtain ⟨j, hj⟩ : ∃ j : Nat, n = (j : Int) + 1 := ⟨(n - 1).toNat, by omega⟩
          have hjr : j < r.length := by simp at h2; omega
          have hjs : k + 1 + j < s.size := by omega
          have htk : (s.extract (k + 1) (k + 1 + j)).data.toList = r.take j := by
            rw [Lib.extract_data, ← hr]
            congr 1
            omega
          have hidx : Lib.indexByte (38 :: r) 59 = (j : Int) + 1 := by rw [← hn, hj]
          have hone := fun w hN => one_any (s.extract (k + 1) (k + 1 + j)) w (by unfold maxLen; simp; omega) hN
          rw [htk] at hone
          obtain ⟨u, hu⟩ : ∃ u, u = oneF (r.take j) := ⟨_, rfl⟩
          rw [← hu] at hone
          have Hone := Lib.hid hone
          have HU := Lib.hid hu
          have HIX := Lib.hid hidx
          have HR := Lib.hid hr
          have hO2 := Lib.hid hO
          subst hj
          have e1 : (k : Int) + 1 ≤ s.size := by omega
          have e2 : (k : Int) + ((j : Int) + 1) ≤ s.size := by omega
          have e3 : (k : Int) + 1 ≤ (k : Int) + ((j : Int) + 1) := by omega
          have e4 : ((k : Int) + ((j : Int) + 1)).toNat = k + 1 + j := by omega
          have e5 : ((k : Int) + 1).toNat = k + 1 := by omega
          clear hone hu hidx hr hO htk hn h2
          by_cases hu0 : u = 0
          · have hfin := hO2.out.trans (openG_none HIX.out (by rw [← HU.out]; exact hu0))
            have Hfin := Lib.hid hfin
            subst hu0
            subst h38
            clear hfin
            go_wp2_with fail
            refine (Hix.out _).mono ?_
            rintro e w1 ⟨rfl, rfl⟩
            go_wp2_with fail
            refine (Hone.out _ (HN.out.below HB.out)).mono ?_
            rintro e w2 ⟨rfl, hB2⟩
            have HB2 := Lib.hid hB2
            clear hB2
            go_wp2_with fail
            go_ret2
            exact ⟨ret_si (by rw [Hfin.out]; rfl) (by rw [Hfin.out]), HB.out.trans (HB2.out.mono hsz)⟩
          · have hub : (u == 0) = false := by simpa using hu0
            have hfin := hO2.out.trans (openG_some HIX.out (by rw [← HU.out]; exact hu0))
            rw [← HU.out] at hfin
            have hrd : r.drop (j + 1) = s.data.toList.drop (k + (j + 1) + 1) := by
              rw [HR.out, List.drop_drop]
              congr 1
              omega
            rw [hrd] at hfin
            have hol2 : (out ++ Lib.bytesOf (putI u)).length ≤ 4 * (k + (j + 1) + 1) := by
              have := putI_le u
              rw [List.length_append, Lib.bytesOf_length]
              omega
            have hps : (strOfNums (putI u)).size ≤ 4 := by rw [strOfNums_size]; exact putI_le u
            have hcells : Lib.byteCells (out ++ Lib.bytesOf (putI u)) = Lib.byteCells out ++ Lib.strCells (strOfNums (putI u)) := by rw [byteCells_append, strCells_nums]
            have hput := fun w => uput_any u w
            obtain ⟨S, hS⟩ : ∃ S, S = strOfNums (putI u) := ⟨_, rfl⟩
            rw [← hS] at hput hps hcells
            have Hfin := Lib.hid hfin
            have Hcells := Lib.hid hcells
            have Hput := Lib.hid hput
            have Hol := Lib.hid hol2
            subst h38
            clear hfin hu0 hrd hol2 hcells hput hS hO2
            go_wp2_with fail
            refine (Hix.out _).mono ?_
            rintro e w1 ⟨rfl, rfl⟩
            go_wp2_with fail
            refine (Hone.out _ (HN.out.below HB.out)).mono ?_
            rintro e w2 ⟨rfl, hB2⟩
            have HB2 := Lib.hid hB2
            clear hB2
            go_wp2_with fail
            refine (Hput.out _).mono ?_
            rintro e w3 ⟨rfl, hB3⟩
            have HB3 := Lib.hid hB3
            clear hB3
            go_wp2_with fail
            have hb23 := HB2.out.trans (HB3.out.mono HB2.out.size)
            have HB23 := Lib.hid (HB.out.trans (hb23.mono hsz))
            have HI3 := Lib.hid (is_below HI.out hb23)
            have hsz3 := HB23.out.size
            clear hb23
            refine (writeString_any w.heap.size w.heap.size _ _ _ HI3.out (by rw [Lib.byteCells_length]; omega) hsz3).mono ?_
            rintro e w4 ⟨rfl, hI4, hB4⟩
            have HI4 := Lib.hid hI4
            have HB4 := Lib.hid hB4
            clear hI4 hB4
            go_wp2_with fail
            go_roundw
            case rel => exact ⟨k + (j + 1) + 1, by omega, by go_num, _, Hol.out, by rw [Hfin.out]; congr 1, by rw [Hcells.out]; exact .inr HI4.out, HB23.out.trans HB4.out⟩
            case measure => simp [intOf]; omega
      · have h38b : (c == 38) = false := by simpa using h38
        have hne : s.data.toList[k] ≠ 38 := fun e => h38 (by rw [HC.out]; unfold Bl; rw [List.getD_eq_getElem?_getD, List.getElem?_eq_getElem hl]; simp [e])
        have hO := HO.out
        rw [hdr, openG_plain hne] at hO
        have hcells : Lib.byteCells (out ++ [s.data.toList[k]]) = Lib.byteCells out ++ [.int .u8 c] := by
          rw [byteCells_append]
          have e : ((s.data.toList[k]'hl).toNat : Int) = c := by rw [HC.out]; unfold Bl; rw [List.getD_eq_getElem?_getD, List.getElem?_eq_getElem hl]; rfl
          show _ ++ [Value.int .u8 ((s.data.toList[k]'hl).toNat : Int)] = _
          rw [e]
        have HO2 := Lib.hid hO
        have Hcells := Lib.hid hcells
        clear hO hcells hne hdr h38
        go_wp2_with fail
        refine (writeByte_any w.heap.size w.heap.size _ _ _ HI.out (by rw [Lib.byteCells_length]; omega) hsz).mono ?_
        rintro e w2 ⟨rfl, hI2, hB2⟩
        have HI2 := Lib.hid hI2
        have HB2 := Lib.hid hB2
        clear hI2 hB2
        go_wp2_with fail
        go_roundw
        case rel => exact ⟨k + 1, by omega, by go_num, _, by simp; omega, HO2.out, by rw [Hcells.out]; exact .inr HI2.out, HB.out.trans HB2.out⟩
        case measure => simp [intOf]; omega
    · have hd : s.data.toList.drop k = [] := List.drop_eq_nil_of_le (by simp; omega)
      have hfin := HO.out
      rw [hd, openG_nil] at hfin
      have Hfin := Lib.hid hfin
      clear hfin hd
      go_wp2_with fail
      refine (Tryd.Builder_String_any w.heap.size w.heap.size _ _ HI.out hsz).mono ?_
      rintro e w2 ⟨rfl, hB2⟩
      have HB2 := Lib.hid hB2
      clear hB2
      go_wp2_with fail
      go_ret2
      exact ⟨ret_si (by rw [Hfin.out]; rfl) (by rw [Hfin.out]), HB.out.trans HB2.out⟩
end Go.Proofs.YtgdkmipkgjkjjaaDoor
