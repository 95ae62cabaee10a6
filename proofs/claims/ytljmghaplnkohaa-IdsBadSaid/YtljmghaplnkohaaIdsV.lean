/- The contract of galliardlaw09.every. -/
import Derived.Test.YtljmghaplnkohaaIdsU
namespace Go.Proofs.Ytljmghaplnkohaa
open Go.RowKit
attribute [local go_sem ↓] Go.wp_at_zero Go.wp_at_succ

def InV (w : World) (Bs : World → Prop) (pre l : List ByteArray) (ov iv : Value) (wr : World) : Prop :=
  ∃ (k : Nat) (A : Option Addr) (c : Nat) (cur : List ByteArray), k ≤ l.length ∧ iv = .int .i64 k ∧ ov = .slice A cur.length c ∧ cur = pre ++ l.take k ∧ StrRow w cur (.slice A cur.length c) wr ∧ Below w.heap.size w wr ∧ Bs wr
def InVc (w : World) (Bs : World → Prop) (pre : List ByteArray) (l : List ChorD) (ov iv : Value) (wr : World) : Prop :=
  ∃ (k : Nat) (A : Option Addr) (c : Nat) (cur : List ByteArray), k ≤ l.length ∧ iv = .int .i64 k ∧ ov = .slice A cur.length c ∧ cur = pre ++ idsCs (l.take k) ∧ StrRow w cur (.slice A cur.length c) wr ∧ Below w.heap.size w wr ∧ Bs wr
theorem idsCs_take {l : List ChorD} {k : Nat} (h : k < l.length) : idsCs (l.take (k + 1)) = idsCs (l.take k) ++ idsC l[k] := by
  unfold idsCs
  rw [List.take_succ_eq_append_getElem h, List.flatMap_append]
  simp
theorem idsCs_take_le (l : List ChorD) (k : Nat) : (idsCs (l.take k)).length ≤ (idsCs l).length := by
  unfold idsCs
  conv => rhs; rw [← List.take_append_drop k l, List.flatMap_append]
  simp
set_option maxRecDepth 100000 in
set_option maxHeartbeats 16000000 in
theorem every_any {w : World} (d : DocD) {A1 B1 : Option Addr} {c1 k1 : Nat} (hm : Rd w (msgsD d.msgs) (.slice A1 d.msgs.length c1)) (hcs : Rd w (chorsD d.chors) (.slice B1 d.chors.length k1)) (hlen : (idsD d).length ≤ 1000000) :
    Calls Try.prog 16 #[.agg #[.slice A1 d.msgs.length c1, .slice B1 d.chors.length k1]] w fun e w' => ∃ A c, e = .returned (.slice A (idsD d).length c) ∧ StrRow w (idsD d) (.slice A (idsD d).length c) w' ∧ Below w.heap.size w w' := by
  obtain ⟨_, _, _, hml1, hml2, _⟩ := rd_at partC_len hm
  obtain ⟨_, _, _, hcl1, hcl2, _⟩ := rd_at chorC_len hcs
  have hmm : d.msgs.length ≤ maxLen := by omega
  have hcm : d.chors.length ≤ maxLen := by omega
  unfold maxLen at hmm hcm
  obtain ⟨j0, hj0, hy0, hy1, hy2⟩ := info_parts Try.infoFStr
  obtain ⟨ids, hids⟩ : ∃ l, l = idsD d := ⟨_, rfl⟩
  rw [← hids] at hlen ⊢
  unfold idsD at hids
  obtain ⟨msgs, hmsgs⟩ : ∃ l, l = d.msgs.map (·.id) := ⟨_, rfl⟩
  rw [← hmsgs] at hids
  have hl1 : msgs.length + (idsCs d.chors).length = ids.length := by rw [hids, List.length_append]
  have hl2 : msgs.length = d.msgs.length := by rw [hmsgs, List.length_map]
  obtain ⟨gd, hgd⟩ : ∃ g, g = w.heap.size := ⟨_, rfl⟩
  obtain ⟨W, hW⟩ : ∃ W, W = (w.alloc (.cells #[.slice A1 d.msgs.length c1, .slice B1 d.chors.length k1] 42)).alloc (.cells #[] 9) := ⟨_, rfl⟩
  have bW : Below w.heap.size w W := by rw [hW]; exact ((Below.refl _ _).alloc (Nat.le_refl _) _).alloc (by simp) _
  have hbd : Blk W gd 42 #[.slice A1 d.msgs.length c1, .slice B1 d.chors.length k1] := by rw [hW, hgd]; exact (Blk.new w _ _).alloc _
  have hO : StrRow w [] (.slice (some ⟨gd + 1, 0, none⟩) 0 0) W := by
    have := World.ownsRow_lit (base := w.heap.size) (e := 9) (size := 1) (w.alloc (.cells #[.slice A1 d.msgs.length c1, .slice B1 d.chors.length k1] 42)) #[] 0 (by simp) (by decide) rfl
    rw [show (w.alloc (.cells #[.slice A1 d.msgs.length c1, .slice B1 d.chors.length k1] 42)).heap.size = gd + 1 by simp [hgd]] at this
    rw [hW]
    exact this
  have d0 : W.cell? ⟨gd, 0, none⟩ = some (.slice A1 d.msgs.length c1) := hbd.cell 0
  obtain ⟨PB, hPB⟩ : ∃ P : World → Prop, P = fun wr => Blk wr gd 42 #[.slice A1 d.msgs.length c1, .slice B1 d.chors.length k1] := ⟨_, rfl⟩
  have HPB := Lib.hid hPB
  have HM := Lib.hid hm
  have HCS := Lib.hid hcs
  have HBS := Lib.hid hbd
  have HB := Lib.hid bW
  have HO := Lib.hid hO
  have HW := Lib.hid hW.symm
  have HGD := Lib.hid hgd.symm
  have HIDS := Lib.hid hids
  have HMSGS := Lib.hid hmsgs
  clear hPB hm hcs hbd bW hW hids hmsgs hO hml1 hml2 hcl1 hcl2
  go_enter Try.func16, Try.ntmps16
  go_upto_region 2 with fail
  rw [HW.out, HGD.out]
  clear hgd HW d0
  go_wp2_with fail
  go_loopw [3, 4] (fun ov iv wr => InV w PB (([] : List ByteArray)) (d.msgs.map (·.id)) ov iv wr) (fun _ iv _ => d.msgs.length - (intOf iv).toNat)
  case atStart => exact ⟨0, _, _, _, Nat.zero_le _, rfl, rfl, by simp, HO.out, HB.out, by rw [HPB.out]; exact HBS.out⟩
  case round =>
    clear HO HB HBS
    obtain ⟨k, A, cc, cur, hk, rfl, rfl, hcur, hO, hB, hBs⟩ := hrel
    obtain ⟨V, rfl⟩ : ∃ V, V = wr := ⟨_, rfl⟩
    rw [List.length_map] at hk
    have HO := Lib.hid hO
    have HB := Lib.hid hB
    have hBk : Blk V gd 42 #[.slice A1 d.msgs.length c1, .slice B1 d.chors.length k1] := by have h := hBs; rw [HPB.out] at h; exact h
    have HBS := Lib.hid hBk
    have hwV := hB.size
    have d0' : V.cell? ⟨gd, 0, none⟩ = some (.slice A1 d.msgs.length c1) := hBk.cell 0
    clear hO hB hBs hBk
    by_cases hlt : k < d.msgs.length
    · obtain ⟨Ax, cx, hvx, _, _, hat⟩ := rd_at partC_len HM.out
      injection hvx with e1 _ e3
      subst e1
      subst e3
      obtain ⟨b, vs, rfl, hb, _, hvs, hcell⟩ := hat k hlt
      obtain ⟨q, hq⟩ : ∃ q, q = d.msgs[k] := ⟨_, rfl⟩
      rw [← hq] at hvs
      obtain rfl := rd_partC hvs
      have hst : (([] : List ByteArray)) ++ (d.msgs.map (·.id)).take (k + 1) = cur ++ [q.id] := by
        rw [List.take_succ_eq_append_getElem (by simpa using hlt), ← List.append_assoc, ← hcur, hq]
        simp
      have hln : cur.length ≤ 1000000 := by
        have h1 : cur.length = (([] : List ByteArray)).length + k := by rw [hcur]; simp <;> omega
        have h2 := hl1
        simp only [List.length_nil] at h1
        omega
      have e0 : V.cell? ⟨b, k * 2, none⟩ = some (.string q.id) := (HB.out.cell (p := ⟨b, k * 2, none⟩) hb).trans (hcell 0 (by omega))
      have HST := Lib.hid hst
      have hjI : (k : Int) < (d.msgs.length : Int) := by omega
      clear hat hvs hcell hq hst hcur
      go_wp2_with (at_builtin; refine wpList_append_lies _ rfl (.tmp 17) (.tmp 24) _ rfl w.heap.size 9 j0 _ 1 16 Try.underlying27 hj0 hy0 hy1 hy2 rfl (by omega) (.slice A cur.length cc) cur.length (cur.map .string) rfl (HO.out.alloc _) ⟨V.heap.size, 0, none⟩ 1 1 [.string q.id] rfl rfl (World.news_of_block (cs := #[.string q.id]) (t := 9) (fr := (0, 0)) (heap_alloc_new V _)) (by simp [Value.oneCell']) (by omega) (by unfold maxLen; omega) (by omega) (by simp; omega) (V.heap.size + 1) (by simp) ?_)
      intro gA cap w4 hown hgrow hat hlt'
      have hO4 : StrRow w (cur ++ [q.id]) (.slice (some ⟨gA, 0, none⟩) (cur ++ [q.id]).length cap) w4 := by
        unfold StrRow
        simpa using hown
      have hB4 := (HB.out.alloc hwV (.cells #[.string q.id] 9)).grown hgrow (by simp; omega) (fun j hj => (HO.out.lt j hj).1)
      have hBs4 : PB w4 := by rw [HPB.out]; exact (HBS.out.alloc (.cells #[.string q.id] 9)).grown hgrow (Ne.symm (blk_own_ne (HO.out.alloc (.cells #[.string q.id] 9)) (HBS.out.alloc (.cells #[.string q.id] 9)) (by decide)))
      have HN := Lib.hid (And.intro HST.out.symm (And.intro hO4 (And.intro hB4 hBs4)))
      clear hO4 hB4 hBs4 hown hgrow hat e0
      go_wp2_with fail
      go_roundw
      case rel => exact ⟨k + 1, some ⟨gA, 0, none⟩, cap, cur ++ [q.id], by rw [List.length_map]; omega, by go_num, by simp, HN.out.1, HN.out.2.1, HN.out.2.2.1, HN.out.2.2.2⟩
      case measure => simp [intOf]; omega
    · have hkl : k = d.msgs.length := by omega
      rw [hkl, List.take_of_length_le (by simp)] at hcur
      have HCUR := Lib.hid hcur
      clear hcur hkl
      obtain ⟨cur', hcur'⟩ : ∃ l, l = cur := ⟨_, rfl⟩
      have hc2 : cur = msgs := by rw [HCUR.out, HMSGS.out]; rfl
      subst hc2
      clear HCUR hcur' cur'
      obtain ⟨msgs, hmm2⟩ : ∃ l, l = cur := ⟨_, rfl⟩
      rw [← hmm2] at HO HIDS hl1 hl2
      rw [← hmm2]
      clear hmm2 HMSGS
      go_wp2_with fail
      clear d0'
      go_loopw [3, 5] (fun ov iv wr => InVc w PB msgs d.chors ov iv wr) (fun _ iv _ => d.chors.length - (intOf iv).toNat)
      case atStart => exact ⟨0, _, _, _, Nat.zero_le _, rfl, rfl, by simp [idsCs], HO.out, HB.out, by rw [HPB.out]; exact HBS.out⟩
      case round =>
        clear HO HB HBS
        obtain ⟨i, A, cc, pre2, hi, rfl, rfl, hcur, hO, hB, hBs⟩ := hrel
        obtain ⟨V, rfl⟩ : ∃ V, V = wr := ⟨_, rfl⟩
        have hBk : Blk V gd 42 #[.slice A1 d.msgs.length c1, .slice B1 d.chors.length k1] := by have h := hBs; rw [HPB.out] at h; exact h
        have HBK := Lib.hid hBk
        have d1 : V.cell? ⟨gd, 1, none⟩ = some (.slice B1 d.chors.length k1) := hBk.cell 1
        clear hBs hBk
        by_cases hlti : i < d.chors.length
        · obtain ⟨Ax, cx, hvx, _, _, hat⟩ := rd_at chorC_len HCS.out
          injection hvx with e1 _ e3
          subst e1
          subst e3
          obtain ⟨bCH, vs, rfl, hbCH, _, hvs, hcell⟩ := hat i hlti
          obtain ⟨c, hx⟩ : ∃ x, x = d.chors[i] := ⟨_, rfl⟩
          rw [← hx] at hvs
          obtain ⟨vP, vF, vI, vS, rfl, hV⟩ := rd_chorC.1 hvs
          obtain ⟨AP, cP, rfl⟩ := rd_form hV.1
          obtain ⟨AF, cF, rfl⟩ := rd_form hV.2.1
          obtain ⟨AI, cI, rfl⟩ := rd_form hV.2.2.1
          obtain ⟨AS, cS, rfl⟩ := rd_form hV.2.2.2
          have hcomp : Comp w c.parts c.flows c.items c.seqs AP cP AF cF AI cI AS cS := ⟨hV.1, hV.2.1, hV.2.2.1, hV.2.2.2⟩
          have htk : msgs ++ idsCs (d.chors.take (i + 1)) = pre2 ++ idsC c := by rw [idsCs_take hlti, ← List.append_assoc, ← hcur, hx]
          have hlen2 : pre2.length + (1 + c.parts.length + c.flows.length + (idsL c.items).length + c.seqs.length) ≤ 1000000 := by
            have h1 := congrArg List.length htk
            have h2 := idsCs_take_le d.chors (i + 1)
            unfold idsC at h1
            simp only [List.length_append, List.length_cons, List.length_map] at h1
            omega
          have hfl : c.flows.length ≤ 1000000 := by omega
          have hpl : c.parts.length ≤ 1000000 := by omega
          have e0 := (hB.cell (p := ⟨bCH, i * 5, none⟩) hbCH).trans (show w.cell? ⟨bCH, i * 5, none⟩ = some (.string c.id) from hcell 0 (by omega))
          have e1 := (hB.cell (p := ⟨bCH, i * 5 + 1, none⟩) hbCH).trans (show w.cell? ⟨bCH, i * 5 + 1, none⟩ = some (.slice AP c.parts.length cP) from hcell 1 (by omega))
          have e2 := (hB.cell (p := ⟨bCH, i * 5 + 2, none⟩) hbCH).trans (show w.cell? ⟨bCH, i * 5 + 2, none⟩ = some (.slice AF c.flows.length cF) from hcell 2 (by omega))
          have e3 := (hB.cell (p := ⟨bCH, i * 5 + 3, none⟩) hbCH).trans (show w.cell? ⟨bCH, i * 5 + 3, none⟩ = some (.slice AI c.items.length cI) from hcell 3 (by omega))
          have e4 := (hB.cell (p := ⟨bCH, i * 5 + 4, none⟩) hbCH).trans (show w.cell? ⟨bCH, i * 5 + 4, none⟩ = some (.slice AS c.seqs.length cS) from hcell 4 (by omega))
          obtain ⟨gc, hgc⟩ : ∃ g, g = V.heap.size := ⟨_, rfl⟩
          obtain ⟨T, hT⟩ : ∃ T, T = V.alloc (.cells #[.string c.id, .slice AP c.parts.length cP, .slice AF c.flows.length cF, .slice AI c.items.length cI, .slice AS c.seqs.length cS] 54) := ⟨_, rfl⟩
          have bT : Below w.heap.size w T := by rw [hT]; exact hB.alloc hB.size _
          have bVT : Below V.heap.size V T := by rw [hT]; exact (Below.refl _ _).alloc (Nat.le_refl _) _
          have hbc : Blk T gc 54 #[.string c.id, .slice AP c.parts.length cP, .slice AF c.flows.length cF, .slice AI c.items.length cI, .slice AS c.seqs.length cS] := by rw [hT, hgc]; exact Blk.new _ _ _
          have HC := Lib.hid hcomp
          have HTK := Lib.hid htk
          have HLEN := Lib.hid (And.intro (show c.seqs.length + (idsL c.items).length ≤ 1000000 by omega) hlen2)
          have HO := Lib.hid (hO.below bVT)
          have HB := Lib.hid bT
          obtain ⟨PC, hPC⟩ : ∃ P : World → Prop, P = fun wr => Blk wr gd 42 #[.slice A1 d.msgs.length c1, .slice (some ⟨bCH, 0, none⟩) d.chors.length k1] ∧ Blk wr gc 54 #[.string c.id, .slice AP c.parts.length cP, .slice AF c.flows.length cF, .slice AI c.items.length cI, .slice AS c.seqs.length cS] := ⟨_, rfl⟩
          have HPC := Lib.hid hPC
          have HBS := Lib.hid (And.intro (HBK.out.below bVT HBK.out.lt) hbc)
          have HT := Lib.hid hT.symm
          have HGC := Lib.hid hgc.symm
          have hiI : (i : Int) < (d.chors.length : Int) := by omega
          have hwT := bT.size
          have x0 : T.cell? ⟨gc, 0, none⟩ = some (.string c.id) := hbc.cell 0
          have hpre : pre2.length ≤ 1000000 := by omega
          clear hPC hO hB hat hvs hcell hx hV hcomp hT hgc bT bVT hbc hcur htk hlen2
          go_upto_region 10 with fail
          rw [HT.out, HGC.out]
          clear e0 e1 e2 e3 e4 HT d1
          go_wp2_with (at_builtin; refine wpList_append_lies _ rfl (.tmp 38) (.tmp 41) _ rfl w.heap.size 9 j0 _ 1 16 Try.underlying27 hj0 hy0 hy1 hy2 rfl (by omega) (.slice A pre2.length cc) pre2.length (pre2.map .string) rfl (HO.out.alloc _) ⟨T.heap.size, 0, none⟩ 1 1 [.string c.id] rfl rfl (World.news_of_block (cs := #[.string c.id]) (t := 9) (fr := (0, 0)) (heap_alloc_new T _)) (by simp [Value.oneCell']) (by omega) (by unfold maxLen; omega) (by omega) (by simp; omega) (T.heap.size + 1) (by simp) ?_)
          intro gA cap w4 hown hgrow hat hlt'
          obtain ⟨p3, hp3⟩ : ∃ l, l = pre2 ++ [c.id] := ⟨_, rfl⟩
          have HP3 := Lib.hid hp3
          have hO4 : StrRow w p3 (.slice (some ⟨gA, 0, none⟩) p3.length cap) w4 := by
            rw [hp3]
            unfold StrRow
            simpa using hown
          have hB4 := (HB.out.alloc hwT (.cells #[.string c.id] 9)).grown hgrow (by simp; omega) (fun j hj => (HO.out.lt j hj).1)
          have hBs4 := And.intro ((HBS.out.1.alloc (.cells #[.string c.id] 9)).grown hgrow (Ne.symm (blk_own_ne (HO.out.alloc (.cells #[.string c.id] 9)) (HBS.out.1.alloc (.cells #[.string c.id] 9)) (by decide)))) ((HBS.out.2.alloc (.cells #[.string c.id] 9)).grown hgrow (Ne.symm (blk_own_ne (HO.out.alloc (.cells #[.string c.id] 9)) (HBS.out.2.alloc (.cells #[.string c.id] 9)) (by decide))))
          have hlen4 : p3.length = pre2.length + 1 := by rw [hp3]; simp
          rw [← hlen4]
          have HP3L := Lib.hid hlen4
          clear HO HB HBS
          have HO := Lib.hid hO4
          have HB := Lib.hid hB4
          have HBS := Lib.hid hBs4
          clear hO4 hB4 hBs4 hown hgrow hat x0 hlen4 hp3
          go_wp2_with fail
          go_loopw [3, 7] (fun ov iv wr => InV w PC (p3) (c.parts.map (·.id)) ov iv wr) (fun _ iv _ => c.parts.length - (intOf iv).toNat)
          case atStart => exact ⟨0, _, _, _, Nat.zero_le _, rfl, rfl, by simp, HO.out, HB.out, by rw [HPC.out]; exact HBS.out⟩
          case round =>
            clear HO HB HBS
            obtain ⟨k, A, cc, cur, hk, rfl, rfl, hcur, hO, hB, hBs⟩ := hrel
            obtain ⟨V, rfl⟩ : ∃ V, V = wr := ⟨_, rfl⟩
            rw [List.length_map] at hk
            have HO := Lib.hid hO
            have HB := Lib.hid hB
            have hBk : Blk V gd 42 #[.slice A1 d.msgs.length c1, .slice (some ⟨bCH, 0, none⟩) d.chors.length k1] ∧ Blk V gc 54 #[.string c.id, .slice AP c.parts.length cP, .slice AF c.flows.length cF, .slice AI c.items.length cI, .slice AS c.seqs.length cS] := by have h := hBs; rw [HPC.out] at h; exact h
            have HBS := Lib.hid hBk
            have hwV := hB.size
            have x1 : V.cell? ⟨gc, 1, none⟩ = some (.slice AP c.parts.length cP) := hBk.2.cell 1
            clear hO hB hBs hBk
            by_cases hlt : k < c.parts.length
            · obtain ⟨Ax, cx, hvx, _, _, hat⟩ := rd_at partC_len HC.out.parts
              injection hvx with e1 _ e3
              subst e1
              subst e3
              obtain ⟨b, vs, rfl, hb, _, hvs, hcell⟩ := hat k hlt
              obtain ⟨q, hq⟩ : ∃ q, q = c.parts[k] := ⟨_, rfl⟩
              rw [← hq] at hvs
              obtain rfl := rd_partC hvs
              have hst : (p3) ++ (c.parts.map (·.id)).take (k + 1) = cur ++ [q.id] := by
                rw [List.take_succ_eq_append_getElem (by simpa using hlt), ← List.append_assoc, ← hcur, hq]
                simp
              have hln : cur.length ≤ 1000000 := by
                have h1 : cur.length = (p3).length + k := by rw [hcur]; simp <;> omega
                have h2 := HLEN.out
                have h3 := HP3L.out
                omega
              have e0 : V.cell? ⟨b, k * 2, none⟩ = some (.string q.id) := (HB.out.cell (p := ⟨b, k * 2, none⟩) hb).trans (hcell 0 (by omega))
              have HST := Lib.hid hst
              have hjI : (k : Int) < (c.parts.length : Int) := by omega
              clear hat hvs hcell hq hst hcur
              go_wp2_with (at_builtin; refine wpList_append_lies _ rfl (.tmp 50) (.tmp 57) _ rfl w.heap.size 9 j0 _ 1 16 Try.underlying27 hj0 hy0 hy1 hy2 rfl (by omega) (.slice A cur.length cc) cur.length (cur.map .string) rfl (HO.out.alloc _) ⟨V.heap.size, 0, none⟩ 1 1 [.string q.id] rfl rfl (World.news_of_block (cs := #[.string q.id]) (t := 9) (fr := (0, 0)) (heap_alloc_new V _)) (by simp [Value.oneCell']) (by omega) (by unfold maxLen; omega) (by omega) (by simp; omega) (V.heap.size + 1) (by simp) ?_)
              intro gA cap w4 hown hgrow hat hlt'
              have hO4 : StrRow w (cur ++ [q.id]) (.slice (some ⟨gA, 0, none⟩) (cur ++ [q.id]).length cap) w4 := by
                unfold StrRow
                simpa using hown
              have hB4 := (HB.out.alloc hwV (.cells #[.string q.id] 9)).grown hgrow (by simp; omega) (fun j hj => (HO.out.lt j hj).1)
              have hBs4 : PC w4 := by rw [HPC.out]; exact ⟨(HBS.out.1.alloc (.cells #[.string q.id] 9)).grown hgrow (Ne.symm (blk_own_ne (HO.out.alloc (.cells #[.string q.id] 9)) (HBS.out.1.alloc (.cells #[.string q.id] 9)) (by decide))), (HBS.out.2.alloc (.cells #[.string q.id] 9)).grown hgrow (Ne.symm (blk_own_ne (HO.out.alloc (.cells #[.string q.id] 9)) (HBS.out.2.alloc (.cells #[.string q.id] 9)) (by decide)))⟩
              have HN := Lib.hid (And.intro HST.out.symm (And.intro hO4 (And.intro hB4 hBs4)))
              clear hO4 hB4 hBs4 hown hgrow hat e0
              go_wp2_with fail
              go_roundw
              case rel => exact ⟨k + 1, some ⟨gA, 0, none⟩, cap, cur ++ [q.id], by rw [List.length_map]; omega, by go_num, by simp, HN.out.1, HN.out.2.1, HN.out.2.2.1, HN.out.2.2.2⟩
              case measure => simp [intOf]; omega
            · have hkl : k = c.parts.length := by omega
              rw [hkl, List.take_of_length_le (by simp)] at hcur
              have HCUR := Lib.hid hcur
              clear hcur hkl
              obtain ⟨p4, hp4⟩ : ∃ l, l = cur := ⟨_, rfl⟩
              rw [← hp4] at HO HCUR
              rw [← hp4]
              have hp4l : p4.length = p3.length + c.parts.length := by rw [HCUR.out]; simp
              have HP4 := Lib.hid HCUR.out
              have HP4L := Lib.hid hp4l
              clear hp4 HCUR hp4l
              go_wp2_with fail
              clear x1
              go_loopw [3, 8] (fun ov iv wr => InV w PC (p4) (c.flows.map (·.id)) ov iv wr) (fun _ iv _ => c.flows.length - (intOf iv).toNat)
              case atStart => exact ⟨0, _, _, _, Nat.zero_le _, rfl, rfl, by simp, HO.out, HB.out, by rw [HPC.out]; exact HBS.out⟩
              case round =>
                clear HO HB HBS
                obtain ⟨k, A, cc, cur, hk, rfl, rfl, hcur, hO, hB, hBs⟩ := hrel
                obtain ⟨V, rfl⟩ : ∃ V, V = wr := ⟨_, rfl⟩
                rw [List.length_map] at hk
                have HO := Lib.hid hO
                have HB := Lib.hid hB
                have hBk : Blk V gd 42 #[.slice A1 d.msgs.length c1, .slice (some ⟨bCH, 0, none⟩) d.chors.length k1] ∧ Blk V gc 54 #[.string c.id, .slice AP c.parts.length cP, .slice AF c.flows.length cF, .slice AI c.items.length cI, .slice AS c.seqs.length cS] := by have h := hBs; rw [HPC.out] at h; exact h
                have HBS := Lib.hid hBk
                have hwV := hB.size
                have x2 : V.cell? ⟨gc, 2, none⟩ = some (.slice AF c.flows.length cF) := hBk.2.cell 2
                clear hO hB hBs hBk
                by_cases hlt : k < c.flows.length
                · obtain ⟨Ax, cx, hvx, _, _, hat⟩ := rd_at flowC_len HC.out.flows
                  injection hvx with e1 _ e3
                  subst e1
                  subst e3
                  obtain ⟨b, vs, rfl, hb, _, hvs, hcell⟩ := hat k hlt
                  obtain ⟨q, hq⟩ : ∃ q, q = c.flows[k] := ⟨_, rfl⟩
                  rw [← hq] at hvs
                  obtain rfl := rd_flowC hvs
                  have hst : (p4) ++ (c.flows.map (·.id)).take (k + 1) = cur ++ [q.id] := by
                    rw [List.take_succ_eq_append_getElem (by simpa using hlt), ← List.append_assoc, ← hcur, hq]
                    simp
                  have hln : cur.length ≤ 1000000 := by
                    have h1 : cur.length = (p4).length + k := by rw [hcur]; simp <;> omega
                    have h2 := HLEN.out
                    have h3 := HP3L.out
                    have h4 := HP4L.out
                    omega
                  have e0 : V.cell? ⟨b, k * 4, none⟩ = some (.string q.id) := (HB.out.cell (p := ⟨b, k * 4, none⟩) hb).trans (hcell 0 (by omega))
                  have HST := Lib.hid hst
                  have hjI : (k : Int) < (c.flows.length : Int) := by omega
                  clear hat hvs hcell hq hst hcur
                  go_wp2_with (at_builtin; refine wpList_append_lies _ rfl (.tmp 66) (.tmp 73) _ rfl w.heap.size 9 j0 _ 1 16 Try.underlying27 hj0 hy0 hy1 hy2 rfl (by omega) (.slice A cur.length cc) cur.length (cur.map .string) rfl (HO.out.alloc _) ⟨V.heap.size, 0, none⟩ 1 1 [.string q.id] rfl rfl (World.news_of_block (cs := #[.string q.id]) (t := 9) (fr := (0, 0)) (heap_alloc_new V _)) (by simp [Value.oneCell']) (by omega) (by unfold maxLen; omega) (by omega) (by simp; omega) (V.heap.size + 1) (by simp) ?_)
                  intro gA cap w4 hown hgrow hat hlt'
                  have hO4 : StrRow w (cur ++ [q.id]) (.slice (some ⟨gA, 0, none⟩) (cur ++ [q.id]).length cap) w4 := by
                    unfold StrRow
                    simpa using hown
                  have hB4 := (HB.out.alloc hwV (.cells #[.string q.id] 9)).grown hgrow (by simp; omega) (fun j hj => (HO.out.lt j hj).1)
                  have hBs4 : PC w4 := by rw [HPC.out]; exact ⟨(HBS.out.1.alloc (.cells #[.string q.id] 9)).grown hgrow (Ne.symm (blk_own_ne (HO.out.alloc (.cells #[.string q.id] 9)) (HBS.out.1.alloc (.cells #[.string q.id] 9)) (by decide))), (HBS.out.2.alloc (.cells #[.string q.id] 9)).grown hgrow (Ne.symm (blk_own_ne (HO.out.alloc (.cells #[.string q.id] 9)) (HBS.out.2.alloc (.cells #[.string q.id] 9)) (by decide)))⟩
                  have HN := Lib.hid (And.intro HST.out.symm (And.intro hO4 (And.intro hB4 hBs4)))
                  clear hO4 hB4 hBs4 hown hgrow hat e0
                  go_wp2_with fail
                  go_roundw
                  case rel => exact ⟨k + 1, some ⟨gA, 0, none⟩, cap, cur ++ [q.id], by rw [List.length_map]; omega, by go_num, by simp, HN.out.1, HN.out.2.1, HN.out.2.2.1, HN.out.2.2.2⟩
                  case measure => simp [intOf]; omega
                · have hkl : k = c.flows.length := by omega
                  rw [hkl, List.take_of_length_le (by simp)] at hcur
                  have HCUR := Lib.hid hcur
                  clear hcur hkl
                  have x3 : V.cell? ⟨gc, 3, none⟩ = some (.slice AI c.items.length cI) := HBS.out.2.cell 3
                  have x4 : V.cell? ⟨gc, 4, none⟩ = some (.slice AS c.seqs.length cS) := HBS.out.2.cell 4
                  have hcall := all_any (depL c.items) c.items c.seqs (Nat.le_refl _) V _ _ (by have := HLEN.out.1; rw [List.length_append, List.length_map]; omega) (Rd.below HB.out _ _ HC.out.items) (Rd.below HB.out _ _ HC.out.seqs)
                  obtain ⟨sub, hsub⟩ : ∃ l, l = idsL c.items ++ c.seqs.map (·.id) := ⟨_, rfl⟩
                  rw [← hsub] at hcall
                  have HSUB := Lib.hid hsub
                  have HCALL := Lib.hid hcall
                  clear hcall hsub
                  go_wp2_with (fail)
                  refine HCALL.out.mono ?_
                  rintro e w5 ⟨A5, c5, rfl, hO5, hb5⟩
                  have hO := HO.out.below hb5
                  have hwB := HB.out.trans (hb5.mono HB.out.size)
                  have hwV5 := hwB.size
                  have hBs := And.intro (HBS.out.1.below hb5 HBS.out.1.lt) (HBS.out.2.below hb5 HBS.out.2.lt)
                  have hr5 := Reads.of_own hO5
                  have HO5 := Lib.hid hO
                  have HR5 := Lib.hid hr5
                  have HB5 := Lib.hid hwB
                  have HBS5 := Lib.hid hBs
                  have hsl : sub.length ≤ 1000000 ∧ cur.length ≤ 1000000 := by
                    have h1 := HLEN.out
                    have h2 := HCUR.out
                    have h3 := HSUB.out
                    have h4 : cur.length = p4.length + (c.flows.map (·.id)).length := by rw [h2, List.length_append]
                    have h6 := HP3L.out
                    have h7 := HP4L.out
                    have h5 : sub.length = (idsL c.items).length + c.seqs.length := by rw [h3, List.length_append, List.length_map]
                    simp only [List.length_map] at h4
                    omega
                  obtain ⟨hsl1, hsl2⟩ := hsl
                  clear hO hwB hr5 hBs hb5 hO5 HCALL x2 x3 x4
                  go_wp2_with (at_builtin; refine wpList_append_any _ rfl (.tmp 75) (.tmp 80) _ rfl w.heap.size 9 j0 _ 1 16 Try.underlying27 hj0 hy0 hy1 hy2 rfl (by omega) (.slice A cur.length cc) cur.length (cur.map .string) rfl HO5.out _ A5 sub.length c5 _ rfl HR5.out (by intro u hu; obtain ⟨a, _, rfl⟩ := List.mem_map.1 hu; rfl) (by unfold maxLen; omega) (by omega) hwV5 ?_)
                  intro v6 w6 hown6 hgrow6 _
                  have hO6 : StrRow w (cur ++ sub) v6 w6 := by
                    unfold StrRow
                    simpa using hown6
                  have hB6 := HB5.out.grown hgrow6 hwV5 (fun j hj => (HO5.out.lt j hj).1)
                  have hBs6 : PB w6 := by rw [HPB.out]; exact HBS5.out.1.grown hgrow6 (Ne.symm (blk_own_ne HO5.out HBS5.out.1 (by decide)))
                  obtain ⟨A6, c6, rfl, _, _⟩ := own_slice hO6
                  have hst : msgs ++ idsCs (d.chors.take (i + 1)) = cur ++ sub := by
                    rw [HTK.out, HCUR.out, HSUB.out, HP4.out, HP3.out]
                    simp [idsC]
                  have HN := Lib.hid (And.intro hst.symm (And.intro hO6 (And.intro hB6 hBs6)))
                  clear hO6 hB6 hBs6 hown6 hgrow6 hst
                  go_wp2_with fail
                  go_roundw
                  case rel => exact ⟨i + 1, A6, c6, cur ++ sub, by omega, by go_num, rfl, HN.out.1, HN.out.2.1, HN.out.2.2.1, HN.out.2.2.2⟩
                  case measure => simp [intOf]; omega
        · have hil : i = d.chors.length := by omega
          rw [hil, List.take_length, ← HIDS.out] at hcur
          subst hcur
          clear hil
          go_wp2_with fail
          go_ret
          exact ⟨A, cc, rfl, hO, hB⟩
end Go.Proofs.Ytljmghaplnkohaa
