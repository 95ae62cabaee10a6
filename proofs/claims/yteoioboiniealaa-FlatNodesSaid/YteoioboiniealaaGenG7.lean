/- The contract of the generator's task: the region that builds the item. -/
import Derived.Test.YteoioboiniealaaGenT
namespace Go.Proofs.Yteoioboiniealaa
open Go.RowKit
attribute [local go_sem ↓] Go.wp_at_zero Go.wp_at_succ

/-- The region of a number, in a function's code. -/
def regAt (n : Nat) : Code → Option Code
  | .region i ops d => bif Nat.beq i n then some (.region i ops d) else none
  | .seq a b => match regAt n a with
    | some c => some c
    | none => regAt n b
  | .cond _ a b => match regAt n a with
    | some c => some c
    | none => regAt n b
  | .block _ a => regAt n a
  | .loop a => regAt n a
  | _ => none
/-- What the region that builds the item leaves. -/
def Built (w V2 : World) (t pa pb f : ByteArray) (lp : Bool) (v : Value) (wx : World) : Prop :=
  ∃ gI gP gF, v = .pointer (some ⟨gI, 0, none⟩) ∧ TI w t pa pb lp [f] (.slice (some ⟨gF, 0, none⟩) 1 1) gI gP wx ∧ w.heap.size + 2 ≤ gF ∧ V2.heap.size ≤ gI ∧ V2.heap.size + 2 ≤ wx.heap.size ∧ Blk wx gF 9 #[.string f] ∧ Below V2.heap.size V2 wx

set_option maxRecDepth 100000 in
set_option maxHeartbeats 16000000 in
theorem seven {w V2 : World} {A AF AI AS : Option Addr} {cap cP cF cI cS bp : Nat} {m2 : MkD} {t f pa pb : ByteArray} {lp : Bool} {x n a b q7 : Nat} {cv u14 u15 u16 u17 u18 u19 u20 u21 u22 u23 u24 u25 u26 u27 u28 u29 u30 u31 u32 u33 u34 u35 u36 u37 u38 u39 u40 u41 u42 u43 u44 u45 u46 u47 u48 u49 u50 u51 u52 u53 u54 u55 u56 u57 u58 u59 u60 u61 u62 u63 u64 u65 u66 u67 u68 u69 u70 u71 u72 u73 u74 u75 u76 u77 u78 u79 u80 u81 u82 u83 u84 u85 u86 u87 u88 u89 u90 u91 u92 u93 u94 u95 u96 u97 u98 u99 u100 u101 u102 u103 u104 u105 u106 u107 u108 u109 u110 u111 u112 u113 u114 u115 u116 u117 u118 u119 u120 u121 u122 u123 u124 u125 u126 u127 u128 u129 u130 u131 u132 u133 : Value}
    (HB : Hid (Blk V2 w.heap.size 89 #[.slice A m2.p.length cap, .int .i64 m2.at_, .int .i64 m2.n, .slice (some ⟨bp, 0, none⟩) m2.parts.length cP, .slice AF m2.flows.length cF, .slice AI m2.items.length cI, .slice AS m2.seqs.length cS, .string m2.pre])) (HCA : Hid (V2.cell? ⟨bp, a * 2, none⟩ = some (.string pa))) (HCB : Hid (V2.cell? ⟨bp, b * 2, none⟩ = some (.string pb)))
    (hbp : bp < V2.heap.size) (HLI : Hid ((m2.parts.length : Int) = (n : Int))) (HAI : Hid ((a : Int) < (n : Int))) (HBI : Hid ((b : Int) < (n : Int))) (_hx : x ≤ 16777216) (_hn4 : n ≤ 4) (_han : a < n) (_hbn : b < n) (_hq70 : q7 < 8)
    (F8 : Hid (bits BinOp.and IntKind.i64 ((x : Int) / 16384) 7 = (q7 : Int))) (F9 : Hid (((q7 : Int) == 0) = lp))
    (_hszV : w.heap.size ≤ V2.heap.size) (hR2 : w.heap.size + 1 < V2.heap.size)
    {C : Code} (hC : (Try.f77.body.bind (regAt 7)) = some C) {K' : Act → World → Prop} {E : Ending → World → Prop}
    (hZ : ∀ (v : Value) (wx : World), Built w V2 t pa pb f lp v wx → ∀ n42 n43 n44 n45 n46 n47 n48 n49 n50 n51 n52 n53 n54 n55 n56 n57 n58 n59 n60 n61 n62 n63 n64 n65 n66 n67 n68 : Value, K' ⟨#[cv, .int .i64 x, .pointer (some ⟨w.heap.size, 0, none⟩), undef, .string ⟨#[]⟩, .pointer (some ⟨w.heap.size + 1, 0, none⟩), .int .i64 n, .int .i64 a, .int .i64 b, .string t, .string f, .string ⟨#[]⟩, v, undef, u14, u15, u16, u17, u18, u19, u20, u21, u22, u23, u24, u25, u26, u27, u28, u29, u30, u31, u32, u33, u34, u35, u36, u37, u38, u39, u40, u41, n42, n43, n44, n45, n46, n47, n48, n49, n50, n51, n52, n53, n54, n55, n56, n57, n58, n59, n60, n61, n62, n63, n64, n65, n66, n67, n68, u69, u70, u71, u72, u73, u74, u75, u76, u77, u78, u79, u80, u81, u82, u83, u84, u85, u86, u87, u88, u89, u90, u91, u92, u93, u94, u95, u96, u97, u98, u99, u100, u101, u102, u103, u104, u105, u106, u107, u108, u109, u110, u111, u112, u113, u114, u115, u116, u117, u118, u119, u120, u121, u122, u123, u124, u125, u126, u127, u128, u129, u130, u131, u132, u133], []⟩ wx) :
    Code.wp Try.prog C (Exit.then K' (bodyPost Try.prog Try.f77 E)) ⟨#[cv, .int .i64 x, .pointer (some ⟨w.heap.size, 0, none⟩), undef, .string ⟨#[]⟩, .pointer (some ⟨w.heap.size + 1, 0, none⟩), .int .i64 n, .int .i64 a, .int .i64 b, .string t, .string f, .string ⟨#[]⟩, undef, undef, u14, u15, u16, u17, u18, u19, u20, u21, u22, u23, u24, u25, u26, u27, u28, u29, u30, u31, u32, u33, u34, u35, u36, u37, u38, u39, u40, u41, u42, u43, u44, u45, u46, u47, u48, u49, u50, u51, u52, u53, u54, u55, u56, u57, u58, u59, u60, u61, u62, u63, u64, u65, u66, u67, u68, u69, u70, u71, u72, u73, u74, u75, u76, u77, u78, u79, u80, u81, u82, u83, u84, u85, u86, u87, u88, u89, u90, u91, u92, u93, u94, u95, u96, u97, u98, u99, u100, u101, u102, u103, u104, u105, u106, u107, u108, u109, u110, u111, u112, u113, u114, u115, u116, u117, u118, u119, u120, u121, u122, u123, u124, u125, u126, u127, u128, u129, u130, u131, u132, u133], []⟩ V2 := by
  have hc2 : some _ = some C := hC
  injection hc2 with hc3
  subst hc3
  have HZ := Lib.hid hZ
  clear hZ
  have ha0 : (0 : Int) ≤ (a : Int) := by omega
  have hb0 : (0 : Int) ≤ (b : Int) := by omega
  have f8 := F8.out
  have f9 := F9.out
  have hlnI := HLI.out
  have haI := HAI.out
  have hbI := HBI.out
  have b0 := (Below.refl V2.heap.size V2).drew
  refine wp_region_HT 28 (fun U => Blk U w.heap.size 89 #[.slice A m2.p.length cap, .int .i64 m2.at_, .int .i64 m2.n, .slice (some ⟨bp, 0, none⟩) m2.parts.length cP, .slice AF m2.flows.length cF, .slice AI m2.items.length cI, .slice AS m2.seqs.length cS, .string m2.pre] ∧ U.cell? ⟨bp, a * 2, none⟩ = some (.string pa) ∧ U.cell? ⟨bp, b * 2, none⟩ = some (.string pb)) (by kernel_rfl) (by decide) (⟨HB.out, HCA.out, HCB.out⟩) (fun hHeld => ?_)
  refine ht_take 0 (v := ?vr_1) rfl (by kernel_rfl) (fun _ _ _ h => h) (Or.inl ⟨by rfl, ?hr_1⟩) hHeld ?rr_1
  case hr_1 => ((intro U hSw; have y0 : U.cell? ⟨w.heap.size, 3, none⟩ = some (.slice (some ⟨bp, 0, none⟩) m2.parts.length cP) := hSw.1.cell 3; have y1 := hSw.2.1; have y2 := hSw.2.2; go_simp); (try (with_reducible rfl)))
  try simp only [Act.put, List.setIfInBounds_toArray, List.set_cons_zero, List.set_cons_succ]
  refine ht_take 1 (v := ?vr_2) rfl (by kernel_rfl) (fun _ _ _ h => h) (Or.inl ⟨by rfl, ?hr_2⟩) hHeld ?rr_2
  case hr_2 => ((intro U hSw; have y0 : U.cell? ⟨w.heap.size, 3, none⟩ = some (.slice (some ⟨bp, 0, none⟩) m2.parts.length cP) := hSw.1.cell 3; have y1 := hSw.2.1; have y2 := hSw.2.2; go_simp); (try (with_reducible rfl)))
  try simp only [Act.put, List.setIfInBounds_toArray, List.set_cons_zero, List.set_cons_succ]
  refine ht_take 2 (v := ?vr_3) rfl (by kernel_rfl) (fun _ _ _ h => h) (Or.inl ⟨by rfl, ?hr_3⟩) hHeld ?rr_3
  case hr_3 => ((intro U hSw; have y0 : U.cell? ⟨w.heap.size, 3, none⟩ = some (.slice (some ⟨bp, 0, none⟩) m2.parts.length cP) := hSw.1.cell 3; have y1 := hSw.2.1; have y2 := hSw.2.2; go_simp); (try (with_reducible rfl)))
  try simp only [Act.put, List.setIfInBounds_toArray, List.set_cons_zero, List.set_cons_succ]
  refine ht_take 3 (v := ?vr_4) rfl (by kernel_rfl) (fun _ _ _ h => h) (Or.inl ⟨by rfl, ?hr_4⟩) hHeld ?rr_4
  case hr_4 => ((intro U hSw; have y0 : U.cell? ⟨w.heap.size, 3, none⟩ = some (.slice (some ⟨bp, 0, none⟩) m2.parts.length cP) := hSw.1.cell 3; have y1 := hSw.2.1; have y2 := hSw.2.2; go_simp); (try (with_reducible rfl)))
  try simp only [Act.put, List.setIfInBounds_toArray, List.set_cons_zero, List.set_cons_succ]
  refine ht_take 4 (v := ?vr_5) rfl (by kernel_rfl) (fun _ _ _ h => h) (Or.inl ⟨by rfl, ?hr_5⟩) hHeld ?rr_5
  case hr_5 => ((intro U hSw; have y0 : U.cell? ⟨w.heap.size, 3, none⟩ = some (.slice (some ⟨bp, 0, none⟩) m2.parts.length cP) := hSw.1.cell 3; have y1 := hSw.2.1; have y2 := hSw.2.2; go_simp); (try (with_reducible rfl)))
  try simp only [Act.put, List.setIfInBounds_toArray, List.set_cons_zero, List.set_cons_succ]
  refine ht_take 5 (v := ?vr_6) rfl (by kernel_rfl) (fun _ _ _ h => h) (Or.inl ⟨by rfl, ?hr_6⟩) hHeld ?rr_6
  case hr_6 => ((intro U hSw; have y0 : U.cell? ⟨w.heap.size, 3, none⟩ = some (.slice (some ⟨bp, 0, none⟩) m2.parts.length cP) := hSw.1.cell 3; have y1 := hSw.2.1; have y2 := hSw.2.2; go_simp); (try (with_reducible rfl)))
  try simp only [Act.put, List.setIfInBounds_toArray, List.set_cons_zero, List.set_cons_succ]
  refine ht_take 6 (v := ?vr_7) rfl (by kernel_rfl) (fun _ _ _ h => h) (Or.inl ⟨by rfl, ?hr_7⟩) hHeld ?rr_7
  case hr_7 => ((intro U hSw; have y0 : U.cell? ⟨w.heap.size, 3, none⟩ = some (.slice (some ⟨bp, 0, none⟩) m2.parts.length cP) := hSw.1.cell 3; have y1 := hSw.2.1; have y2 := hSw.2.2; go_simp); (try (with_reducible rfl)))
  try simp only [Act.put, List.setIfInBounds_toArray, List.set_cons_zero, List.set_cons_succ]
  refine ht_take 7 (v := ?vr_8) rfl (by kernel_rfl) (fun _ _ _ h => h) (Or.inl ⟨by rfl, ?hr_8⟩) hHeld ?rr_8
  case hr_8 => ((intro U hSw; have y0 : U.cell? ⟨w.heap.size, 3, none⟩ = some (.slice (some ⟨bp, 0, none⟩) m2.parts.length cP) := hSw.1.cell 3; have y1 := hSw.2.1; have y2 := hSw.2.2; go_simp); (try (with_reducible rfl)))
  try simp only [Act.put, List.setIfInBounds_toArray, List.set_cons_zero, List.set_cons_succ]
  refine ht_take 8 (v := ?vr_9) rfl (by kernel_rfl) (fun _ _ _ h => h) (Or.inl ⟨by rfl, ?hr_9⟩) hHeld ?rr_9
  case hr_9 => ((intro U hSw; have y0 : U.cell? ⟨w.heap.size, 3, none⟩ = some (.slice (some ⟨bp, 0, none⟩) m2.parts.length cP) := hSw.1.cell 3; have y1 := hSw.2.1; have y2 := hSw.2.2; go_simp); (try (with_reducible rfl)))
  try simp only [Act.put, List.setIfInBounds_toArray, List.set_cons_zero, List.set_cons_succ]
  refine ht_take 9 (v := ?vr_10) rfl (by kernel_rfl) (fun _ _ _ h => h) (Or.inl ⟨by rfl, ?hr_10⟩) hHeld ?rr_10
  case hr_10 => ((intro U hSw; have y0 : U.cell? ⟨w.heap.size, 3, none⟩ = some (.slice (some ⟨bp, 0, none⟩) m2.parts.length cP) := hSw.1.cell 3; have y1 := hSw.2.1; have y2 := hSw.2.2; go_simp); (try (with_reducible rfl)))
  try simp only [Act.put, List.setIfInBounds_toArray, List.set_cons_zero, List.set_cons_succ]
  refine ht_take 10 (v := ?vr_11) rfl (by kernel_rfl) (fun _ _ _ h => h) (Or.inl ⟨by rfl, ?hr_11⟩) hHeld ?rr_11
  case hr_11 => ((intro U hSw; have y0 : U.cell? ⟨w.heap.size, 3, none⟩ = some (.slice (some ⟨bp, 0, none⟩) m2.parts.length cP) := hSw.1.cell 3; have y1 := hSw.2.1; have y2 := hSw.2.2; go_simp); (try (with_reducible rfl)))
  try simp only [Act.put, List.setIfInBounds_toArray, List.set_cons_zero, List.set_cons_succ]
  refine ht_take 11 (v := ?vr_12) rfl (by kernel_rfl) (fun _ _ _ h => h) (Or.inl ⟨by rfl, ?hr_12⟩) hHeld ?rr_12
  case hr_12 => ((intro U hSw; have y0 : U.cell? ⟨w.heap.size, 3, none⟩ = some (.slice (some ⟨bp, 0, none⟩) m2.parts.length cP) := hSw.1.cell 3; have y1 := hSw.2.1; have y2 := hSw.2.2; go_simp); (try (with_reducible rfl)))
  try simp only [Act.put, List.setIfInBounds_toArray, List.set_cons_zero, List.set_cons_succ]
  refine ht_take 12 (v := ?vr_13) rfl (by kernel_rfl) (fun _ _ _ h => h) (Or.inl ⟨by rfl, ?hr_13⟩) hHeld ?rr_13
  case hr_13 => ((intro U hSw; have y0 : U.cell? ⟨w.heap.size, 3, none⟩ = some (.slice (some ⟨bp, 0, none⟩) m2.parts.length cP) := hSw.1.cell 3; have y1 := hSw.2.1; have y2 := hSw.2.2; go_simp); (try (with_reducible rfl)))
  try simp only [Act.put, List.setIfInBounds_toArray, List.set_cons_zero, List.set_cons_succ]
  refine ht_take 13 (v := ?vr_14) rfl (by kernel_rfl) (fun _ _ _ h => h) (Or.inl ⟨by rfl, ?hr_14⟩) hHeld ?rr_14
  case hr_14 => ((intro U hSw; have y0 : U.cell? ⟨w.heap.size, 3, none⟩ = some (.slice (some ⟨bp, 0, none⟩) m2.parts.length cP) := hSw.1.cell 3; have y1 := hSw.2.1; have y2 := hSw.2.2; go_simp); (try (with_reducible rfl)))
  try simp only [Act.put, List.setIfInBounds_toArray, List.set_cons_zero, List.set_cons_succ]
  refine ht_take 14 (v := ?vr_15) rfl (by kernel_rfl) (fun _ _ _ h => h) (Or.inl ⟨by rfl, ?hr_15⟩) hHeld ?rr_15
  case hr_15 => ((intro U hSw; have y0 : U.cell? ⟨w.heap.size, 3, none⟩ = some (.slice (some ⟨bp, 0, none⟩) m2.parts.length cP) := hSw.1.cell 3; have y1 := hSw.2.1; have y2 := hSw.2.2; go_simp); (try (with_reducible rfl)))
  try simp only [Act.put, List.setIfInBounds_toArray, List.set_cons_zero, List.set_cons_succ]
  refine ht_take 15 (v := ?vr_16) rfl (by kernel_rfl) (fun _ _ _ h => h) (Or.inl ⟨by rfl, ?hr_16⟩) hHeld ?rr_16
  case hr_16 => ((intro U hSw; have y0 : U.cell? ⟨w.heap.size, 3, none⟩ = some (.slice (some ⟨bp, 0, none⟩) m2.parts.length cP) := hSw.1.cell 3; have y1 := hSw.2.1; have y2 := hSw.2.2; go_simp); (try (with_reducible rfl)))
  try simp only [Act.put, List.setIfInBounds_toArray, List.set_cons_zero, List.set_cons_succ]
  refine ht_take 16 (v := ?vr_17) rfl (by kernel_rfl) (fun _ _ _ h => h) (Or.inl ⟨by rfl, ?hr_17⟩) hHeld ?rr_17
  case hr_17 => ((intro U hSw; have y0 : U.cell? ⟨w.heap.size, 3, none⟩ = some (.slice (some ⟨bp, 0, none⟩) m2.parts.length cP) := hSw.1.cell 3; have y1 := hSw.2.1; have y2 := hSw.2.2; go_simp); (try (with_reducible rfl)))
  try simp only [Act.put, List.setIfInBounds_toArray, List.set_cons_zero, List.set_cons_succ]
  refine ht_take 17 (v := ?vr_18) rfl (by kernel_rfl) (fun _ _ _ h => h) (Or.inl ⟨by rfl, ?hr_18⟩) hHeld ?rr_18
  case hr_18 => ((intro U hSw; have y0 : U.cell? ⟨w.heap.size, 3, none⟩ = some (.slice (some ⟨bp, 0, none⟩) m2.parts.length cP) := hSw.1.cell 3; have y1 := hSw.2.1; have y2 := hSw.2.2; go_simp); (try (with_reducible rfl)))
  try simp only [Act.put, List.setIfInBounds_toArray, List.set_cons_zero, List.set_cons_succ]
  refine ht_take 18 (v := ?vr_19) rfl (by kernel_rfl) (fun _ _ _ h => h) (Or.inl ⟨by rfl, ?hr_19⟩) hHeld ?rr_19
  case hr_19 => ((intro U hSw; have y0 : U.cell? ⟨w.heap.size, 3, none⟩ = some (.slice (some ⟨bp, 0, none⟩) m2.parts.length cP) := hSw.1.cell 3; have y1 := hSw.2.1; have y2 := hSw.2.2; go_simp); (try (with_reducible rfl)))
  try simp only [Act.put, List.setIfInBounds_toArray, List.set_cons_zero, List.set_cons_succ]
  refine ht_take 20 (v := ?vr_20) rfl (by kernel_rfl) (fun _ _ _ h => h) (Or.inl ⟨by rfl, ?hr_20⟩) hHeld ?rr_20
  case hr_20 => ((intro U hSw; have y0 : U.cell? ⟨w.heap.size, 3, none⟩ = some (.slice (some ⟨bp, 0, none⟩) m2.parts.length cP) := hSw.1.cell 3; have y1 := hSw.2.1; have y2 := hSw.2.2; go_simp); (try (with_reducible rfl)))
  try simp only [Act.put, List.setIfInBounds_toArray, List.set_cons_zero, List.set_cons_succ]
  refine ht_take 22 (v := ?vr_21) rfl (by kernel_rfl) (fun _ _ _ h => h) (Or.inl ⟨by rfl, ?hr_21⟩) hHeld ?rr_21
  case hr_21 => ((intro U hSw; have y0 : U.cell? ⟨w.heap.size, 3, none⟩ = some (.slice (some ⟨bp, 0, none⟩) m2.parts.length cP) := hSw.1.cell 3; have y1 := hSw.2.1; have y2 := hSw.2.2; go_simp); (try (with_reducible rfl)))
  try simp only [Act.put, List.setIfInBounds_toArray, List.set_cons_zero, List.set_cons_succ]
  refine ht_take 23 (v := ?vr_22) rfl (by kernel_rfl) (fun _ _ _ h => h) (Or.inl ⟨by rfl, ?hr_22⟩) hHeld ?rr_22
  case hr_22 => ((intro U hSw; have y0 : U.cell? ⟨w.heap.size, 3, none⟩ = some (.slice (some ⟨bp, 0, none⟩) m2.parts.length cP) := hSw.1.cell 3; have y1 := hSw.2.1; have y2 := hSw.2.2; go_simp); (try (with_reducible rfl)))
  try simp only [Act.put, List.setIfInBounds_toArray, List.set_cons_zero, List.set_cons_succ]
  refine ht_take 24 (v := ?vr_23) rfl (by kernel_rfl) (fun _ _ _ h => h) (Or.inl ⟨by rfl, ?hr_23⟩) hHeld ?rr_23
  case hr_23 => ((intro U hSw; have y0 : U.cell? ⟨w.heap.size, 3, none⟩ = some (.slice (some ⟨bp, 0, none⟩) m2.parts.length cP) := hSw.1.cell 3; have y1 := hSw.2.1; have y2 := hSw.2.2; go_simp); (try (with_reducible rfl)))
  try simp only [Act.put, List.setIfInBounds_toArray, List.set_cons_zero, List.set_cons_succ]
  refine ht_take 25 (v := ?vr_24) rfl (by kernel_rfl) (fun _ _ _ h => h) (Or.inl ⟨by rfl, ?hr_24⟩) hHeld ?rr_24
  case hr_24 => ((intro U hSw; have y0 : U.cell? ⟨w.heap.size, 3, none⟩ = some (.slice (some ⟨bp, 0, none⟩) m2.parts.length cP) := hSw.1.cell 3; have y1 := hSw.2.1; have y2 := hSw.2.2; go_simp); (try (with_reducible rfl)))
  try simp only [Act.put, List.setIfInBounds_toArray, List.set_cons_zero, List.set_cons_succ]
  refine wpHT_all [19, 21, 27] (by kernel_rfl) ?_
  refine ht_cons (i := 19) rfl (fun K hK => ?_) (ht_cons (i := 21) rfl (fun K hK => ?_) (ht_cons (i := 27) rfl (fun K hK => ?_) (allHT.nil)))
  · go_simp
    have b1 := b0.alloc b0.size (.cells #[.string pa, .string pb] 9)
    refine hK.out _ _ (⟨hHeld.1.alloc _, (b1.cell (p := ⟨bp, a * 2, none⟩) hbp).trans HCA.out, (b1.cell (p := ⟨bp, b * 2, none⟩) hbp).trans HCB.out⟩) (fun hHeld => ?_)
    clear hK K
    try simp only [Act.put, List.setIfInBounds_toArray, List.set_cons_zero, List.set_cons_succ]
    refine wpHT_all [21, 27] (by kernel_rfl) ?_
    refine ht_cons (i := 21) rfl (fun K hK => ?_) (ht_cons (i := 27) rfl (fun K hK => ?_) (allHT.nil))
    · go_simp
      have b2 := b1.alloc b1.size (.cells #[.string f] 9)
      refine hK.out _ _ (⟨hHeld.1.alloc _, (b2.cell (p := ⟨bp, a * 2, none⟩) hbp).trans HCA.out, (b2.cell (p := ⟨bp, b * 2, none⟩) hbp).trans HCB.out⟩) (fun hHeld => ?_)
      clear hK K
      try simp only [Act.put, List.setIfInBounds_toArray, List.set_cons_zero, List.set_cons_succ]
      refine ht_take 26 (v := ?vr_25) rfl (by kernel_rfl) (fun _ _ _ h => h) (Or.inl ⟨by rfl, ?hr_25⟩) hHeld ?rr_25
      case hr_25 => ((intro U hSw; have y0 : U.cell? ⟨w.heap.size, 3, none⟩ = some (.slice (some ⟨bp, 0, none⟩) m2.parts.length cP) := hSw.1.cell 3; have y1 := hSw.2.1; have y2 := hSw.2.2; go_simp); (try (with_reducible rfl)))
      try simp only [Act.put, List.setIfInBounds_toArray, List.set_cons_zero, List.set_cons_succ]
      refine ht_one 27 rfl (by kernel_rfl) (fun K hK => ?_)
      go_simp
      have b3 := b2.alloc b2.size (.cells #[.int .i64 0, .string ⟨#[]⟩, .string ⟨#[]⟩, .slice none 0 0, .slice none 0 0, .bool false, .string ⟨#[]⟩, .slice none 0 0, .slice none 0 0, .slice none 0 0] 33)
      refine hK.out _ _ (⟨hHeld.1.alloc _, (b3.cell (p := ⟨bp, a * 2, none⟩) hbp).trans HCA.out, (b3.cell (p := ⟨bp, b * 2, none⟩) hbp).trans HCB.out⟩) (fun hHeld => ?_)
      clear hK K
      try simp only [Act.put, List.setIfInBounds_toArray, List.set_cons_zero, List.set_cons_succ]
      refine ht_done (by kernel_rfl) rfl ?_
      go_wp2_with fail
      refine HZ.out _ _ ?_ _ _ _ _ _ _ _ _ _ _ _ _ _ _ _ _ _ _ _ _ _ _ _ _ _ _ _
      · skip
        have d0 := (Below.refl V2.heap.size V2).drew
        have d1 := d0.alloc d0.size (.cells #[.string pa, .string pb] 9)
        have d2 := d1.alloc d1.size (.cells #[.string f] 9)
        have d3 := d2.alloc d2.size (.cells #[.int .i64 3, .string t, .string pa, .slice (some ⟨V2.heap.size, 0, none⟩) 2 2, .slice (some ⟨V2.heap.size + 1, 0, none⟩) 1 1, .bool lp, .string ⟨#[]⟩, .slice none 0 0, .slice none 0 0, .slice none 0 0] 33)
        have kP := ((Blk.newB (cs := #[.string pa, .string pb]) (t := 9) d0 (V2.heap.size) rfl).alloc (.cells #[.string f] 9)).alloc (.cells #[.int .i64 3, .string t, .string pa, .slice (some ⟨V2.heap.size, 0, none⟩) 2 2, .slice (some ⟨V2.heap.size + 1, 0, none⟩) 1 1, .bool lp, .string ⟨#[]⟩, .slice none 0 0, .slice none 0 0, .slice none 0 0] 33)
        have kF := (Blk.newB (cs := #[.string f]) (t := 9) d1 (V2.heap.size + 1) (by simp)).alloc (.cells #[.int .i64 3, .string t, .string pa, .slice (some ⟨V2.heap.size, 0, none⟩) 2 2, .slice (some ⟨V2.heap.size + 1, 0, none⟩) 1 1, .bool lp, .string ⟨#[]⟩, .slice none 0 0, .slice none 0 0, .slice none 0 0] 33)
        have kI := Blk.newB (cs := #[.int .i64 3, .string t, .string pa, .slice (some ⟨V2.heap.size, 0, none⟩) 2 2, .slice (some ⟨V2.heap.size + 1, 0, none⟩) 1 1, .bool lp, .string ⟨#[]⟩, .slice none 0 0, .slice none 0 0, .slice none 0 0]) (t := 33) d2 (V2.heap.size + 1 + 1) (by simp)
        refine ⟨V2.heap.size + 1 + 1, V2.heap.size, V2.heap.size + 1, rfl, ⟨by omega, by omega, kI, kP, own_blkG (n := 1) kF (by decide) rfl (by omega)⟩, by omega, by omega, by simp <;> omega, kF, d3⟩
    · go_simp
      have b2 := b1.alloc b1.size (.cells #[.int .i64 0, .string ⟨#[]⟩, .string ⟨#[]⟩, .slice none 0 0, .slice none 0 0, .bool false, .string ⟨#[]⟩, .slice none 0 0, .slice none 0 0, .slice none 0 0] 33)
      refine hK.out _ _ (⟨hHeld.1.alloc _, (b2.cell (p := ⟨bp, a * 2, none⟩) hbp).trans HCA.out, (b2.cell (p := ⟨bp, b * 2, none⟩) hbp).trans HCB.out⟩) (fun hHeld => ?_)
      clear hK K
      try simp only [Act.put, List.setIfInBounds_toArray, List.set_cons_zero, List.set_cons_succ]
      refine ht_one 21 rfl (by kernel_rfl) (fun K hK => ?_)
      go_simp
      have b3 := b2.alloc b2.size (.cells #[.string f] 9)
      refine hK.out _ _ (⟨hHeld.1.alloc _, (b3.cell (p := ⟨bp, a * 2, none⟩) hbp).trans HCA.out, (b3.cell (p := ⟨bp, b * 2, none⟩) hbp).trans HCB.out⟩) (fun hHeld => ?_)
      clear hK K
      try simp only [Act.put, List.setIfInBounds_toArray, List.set_cons_zero, List.set_cons_succ]
      refine ht_take 26 (v := ?vr_26) rfl (by kernel_rfl) (fun _ _ _ h => h) (Or.inl ⟨by rfl, ?hr_26⟩) hHeld ?rr_26
      case hr_26 => ((intro U hSw; have y0 : U.cell? ⟨w.heap.size, 3, none⟩ = some (.slice (some ⟨bp, 0, none⟩) m2.parts.length cP) := hSw.1.cell 3; have y1 := hSw.2.1; have y2 := hSw.2.2; go_simp); (try (with_reducible rfl)))
      try simp only [Act.put, List.setIfInBounds_toArray, List.set_cons_zero, List.set_cons_succ]
      refine ht_done (by kernel_rfl) rfl ?_
      go_wp2_with fail
      refine HZ.out _ _ ?_ _ _ _ _ _ _ _ _ _ _ _ _ _ _ _ _ _ _ _ _ _ _ _ _ _ _ _
      · skip
        have d0 := (Below.refl V2.heap.size V2).drew
        have d1 := d0.alloc d0.size (.cells #[.string pa, .string pb] 9)
        have d2 := d1.alloc d1.size (.cells #[.int .i64 3, .string t, .string pa, .slice (some ⟨V2.heap.size, 0, none⟩) 2 2, .slice (some ⟨V2.heap.size + 1 + 1, 0, none⟩) 1 1, .bool lp, .string ⟨#[]⟩, .slice none 0 0, .slice none 0 0, .slice none 0 0] 33)
        have d3 := d2.alloc d2.size (.cells #[.string f] 9)
        have kP := ((Blk.newB (cs := #[.string pa, .string pb]) (t := 9) d0 (V2.heap.size) rfl).alloc (.cells #[.int .i64 3, .string t, .string pa, .slice (some ⟨V2.heap.size, 0, none⟩) 2 2, .slice (some ⟨V2.heap.size + 1 + 1, 0, none⟩) 1 1, .bool lp, .string ⟨#[]⟩, .slice none 0 0, .slice none 0 0, .slice none 0 0] 33)).alloc (.cells #[.string f] 9)
        have kI := (Blk.newB (cs := #[.int .i64 3, .string t, .string pa, .slice (some ⟨V2.heap.size, 0, none⟩) 2 2, .slice (some ⟨V2.heap.size + 1 + 1, 0, none⟩) 1 1, .bool lp, .string ⟨#[]⟩, .slice none 0 0, .slice none 0 0, .slice none 0 0]) (t := 33) d1 (V2.heap.size + 1) (by simp)).alloc (.cells #[.string f] 9)
        have kF := Blk.newB (cs := #[.string f]) (t := 9) d2 (V2.heap.size + 1 + 1) (by simp)
        refine ⟨V2.heap.size + 1, V2.heap.size, V2.heap.size + 1 + 1, rfl, ⟨by omega, by omega, kI, kP, own_blkG (n := 1) kF (by decide) rfl (by omega)⟩, by omega, by omega, by simp <;> omega, kF, d3⟩
  · go_simp
    have b1 := b0.alloc b0.size (.cells #[.string f] 9)
    refine hK.out _ _ (⟨hHeld.1.alloc _, (b1.cell (p := ⟨bp, a * 2, none⟩) hbp).trans HCA.out, (b1.cell (p := ⟨bp, b * 2, none⟩) hbp).trans HCB.out⟩) (fun hHeld => ?_)
    clear hK K
    try simp only [Act.put, List.setIfInBounds_toArray, List.set_cons_zero, List.set_cons_succ]
    refine wpHT_all [19, 27] (by kernel_rfl) ?_
    refine ht_cons (i := 19) rfl (fun K hK => ?_) (ht_cons (i := 27) rfl (fun K hK => ?_) (allHT.nil))
    · go_simp
      have b2 := b1.alloc b1.size (.cells #[.string pa, .string pb] 9)
      refine hK.out _ _ (⟨hHeld.1.alloc _, (b2.cell (p := ⟨bp, a * 2, none⟩) hbp).trans HCA.out, (b2.cell (p := ⟨bp, b * 2, none⟩) hbp).trans HCB.out⟩) (fun hHeld => ?_)
      clear hK K
      try simp only [Act.put, List.setIfInBounds_toArray, List.set_cons_zero, List.set_cons_succ]
      refine ht_take 26 (v := ?vr_27) rfl (by kernel_rfl) (fun _ _ _ h => h) (Or.inl ⟨by rfl, ?hr_27⟩) hHeld ?rr_27
      case hr_27 => ((intro U hSw; have y0 : U.cell? ⟨w.heap.size, 3, none⟩ = some (.slice (some ⟨bp, 0, none⟩) m2.parts.length cP) := hSw.1.cell 3; have y1 := hSw.2.1; have y2 := hSw.2.2; go_simp); (try (with_reducible rfl)))
      try simp only [Act.put, List.setIfInBounds_toArray, List.set_cons_zero, List.set_cons_succ]
      refine ht_one 27 rfl (by kernel_rfl) (fun K hK => ?_)
      go_simp
      have b3 := b2.alloc b2.size (.cells #[.int .i64 0, .string ⟨#[]⟩, .string ⟨#[]⟩, .slice none 0 0, .slice none 0 0, .bool false, .string ⟨#[]⟩, .slice none 0 0, .slice none 0 0, .slice none 0 0] 33)
      refine hK.out _ _ (⟨hHeld.1.alloc _, (b3.cell (p := ⟨bp, a * 2, none⟩) hbp).trans HCA.out, (b3.cell (p := ⟨bp, b * 2, none⟩) hbp).trans HCB.out⟩) (fun hHeld => ?_)
      clear hK K
      try simp only [Act.put, List.setIfInBounds_toArray, List.set_cons_zero, List.set_cons_succ]
      refine ht_done (by kernel_rfl) rfl ?_
      go_wp2_with fail
      refine HZ.out _ _ ?_ _ _ _ _ _ _ _ _ _ _ _ _ _ _ _ _ _ _ _ _ _ _ _ _ _ _ _
      · skip
        have d0 := (Below.refl V2.heap.size V2).drew
        have d1 := d0.alloc d0.size (.cells #[.string f] 9)
        have d2 := d1.alloc d1.size (.cells #[.string pa, .string pb] 9)
        have d3 := d2.alloc d2.size (.cells #[.int .i64 3, .string t, .string pa, .slice (some ⟨V2.heap.size + 1, 0, none⟩) 2 2, .slice (some ⟨V2.heap.size, 0, none⟩) 1 1, .bool lp, .string ⟨#[]⟩, .slice none 0 0, .slice none 0 0, .slice none 0 0] 33)
        have kF := ((Blk.newB (cs := #[.string f]) (t := 9) d0 (V2.heap.size) rfl).alloc (.cells #[.string pa, .string pb] 9)).alloc (.cells #[.int .i64 3, .string t, .string pa, .slice (some ⟨V2.heap.size + 1, 0, none⟩) 2 2, .slice (some ⟨V2.heap.size, 0, none⟩) 1 1, .bool lp, .string ⟨#[]⟩, .slice none 0 0, .slice none 0 0, .slice none 0 0] 33)
        have kP := (Blk.newB (cs := #[.string pa, .string pb]) (t := 9) d1 (V2.heap.size + 1) (by simp)).alloc (.cells #[.int .i64 3, .string t, .string pa, .slice (some ⟨V2.heap.size + 1, 0, none⟩) 2 2, .slice (some ⟨V2.heap.size, 0, none⟩) 1 1, .bool lp, .string ⟨#[]⟩, .slice none 0 0, .slice none 0 0, .slice none 0 0] 33)
        have kI := Blk.newB (cs := #[.int .i64 3, .string t, .string pa, .slice (some ⟨V2.heap.size + 1, 0, none⟩) 2 2, .slice (some ⟨V2.heap.size, 0, none⟩) 1 1, .bool lp, .string ⟨#[]⟩, .slice none 0 0, .slice none 0 0, .slice none 0 0]) (t := 33) d2 (V2.heap.size + 1 + 1) (by simp)
        refine ⟨V2.heap.size + 1 + 1, V2.heap.size + 1, V2.heap.size, rfl, ⟨by omega, by omega, kI, kP, own_blkG (n := 1) kF (by decide) rfl (by omega)⟩, by omega, by omega, by simp <;> omega, kF, d3⟩
    · go_simp
      have b2 := b1.alloc b1.size (.cells #[.int .i64 0, .string ⟨#[]⟩, .string ⟨#[]⟩, .slice none 0 0, .slice none 0 0, .bool false, .string ⟨#[]⟩, .slice none 0 0, .slice none 0 0, .slice none 0 0] 33)
      refine hK.out _ _ (⟨hHeld.1.alloc _, (b2.cell (p := ⟨bp, a * 2, none⟩) hbp).trans HCA.out, (b2.cell (p := ⟨bp, b * 2, none⟩) hbp).trans HCB.out⟩) (fun hHeld => ?_)
      clear hK K
      try simp only [Act.put, List.setIfInBounds_toArray, List.set_cons_zero, List.set_cons_succ]
      refine ht_one 19 rfl (by kernel_rfl) (fun K hK => ?_)
      go_simp
      have b3 := b2.alloc b2.size (.cells #[.string pa, .string pb] 9)
      refine hK.out _ _ (⟨hHeld.1.alloc _, (b3.cell (p := ⟨bp, a * 2, none⟩) hbp).trans HCA.out, (b3.cell (p := ⟨bp, b * 2, none⟩) hbp).trans HCB.out⟩) (fun hHeld => ?_)
      clear hK K
      try simp only [Act.put, List.setIfInBounds_toArray, List.set_cons_zero, List.set_cons_succ]
      refine ht_take 26 (v := ?vr_28) rfl (by kernel_rfl) (fun _ _ _ h => h) (Or.inl ⟨by rfl, ?hr_28⟩) hHeld ?rr_28
      case hr_28 => ((intro U hSw; have y0 : U.cell? ⟨w.heap.size, 3, none⟩ = some (.slice (some ⟨bp, 0, none⟩) m2.parts.length cP) := hSw.1.cell 3; have y1 := hSw.2.1; have y2 := hSw.2.2; go_simp); (try (with_reducible rfl)))
      try simp only [Act.put, List.setIfInBounds_toArray, List.set_cons_zero, List.set_cons_succ]
      refine ht_done (by kernel_rfl) rfl ?_
      go_wp2_with fail
      refine HZ.out _ _ ?_ _ _ _ _ _ _ _ _ _ _ _ _ _ _ _ _ _ _ _ _ _ _ _ _ _ _ _
      · skip
        have d0 := (Below.refl V2.heap.size V2).drew
        have d1 := d0.alloc d0.size (.cells #[.string f] 9)
        have d2 := d1.alloc d1.size (.cells #[.int .i64 3, .string t, .string pa, .slice (some ⟨V2.heap.size + 1 + 1, 0, none⟩) 2 2, .slice (some ⟨V2.heap.size, 0, none⟩) 1 1, .bool lp, .string ⟨#[]⟩, .slice none 0 0, .slice none 0 0, .slice none 0 0] 33)
        have d3 := d2.alloc d2.size (.cells #[.string pa, .string pb] 9)
        have kF := ((Blk.newB (cs := #[.string f]) (t := 9) d0 (V2.heap.size) rfl).alloc (.cells #[.int .i64 3, .string t, .string pa, .slice (some ⟨V2.heap.size + 1 + 1, 0, none⟩) 2 2, .slice (some ⟨V2.heap.size, 0, none⟩) 1 1, .bool lp, .string ⟨#[]⟩, .slice none 0 0, .slice none 0 0, .slice none 0 0] 33)).alloc (.cells #[.string pa, .string pb] 9)
        have kI := (Blk.newB (cs := #[.int .i64 3, .string t, .string pa, .slice (some ⟨V2.heap.size + 1 + 1, 0, none⟩) 2 2, .slice (some ⟨V2.heap.size, 0, none⟩) 1 1, .bool lp, .string ⟨#[]⟩, .slice none 0 0, .slice none 0 0, .slice none 0 0]) (t := 33) d1 (V2.heap.size + 1) (by simp)).alloc (.cells #[.string pa, .string pb] 9)
        have kP := Blk.newB (cs := #[.string pa, .string pb]) (t := 9) d2 (V2.heap.size + 1 + 1) (by simp)
        refine ⟨V2.heap.size + 1, V2.heap.size + 1 + 1, V2.heap.size, rfl, ⟨by omega, by omega, kI, kP, own_blkG (n := 1) kF (by decide) rfl (by omega)⟩, by omega, by omega, by simp <;> omega, kF, d3⟩
  · go_simp
    have b1 := b0.alloc b0.size (.cells #[.int .i64 0, .string ⟨#[]⟩, .string ⟨#[]⟩, .slice none 0 0, .slice none 0 0, .bool false, .string ⟨#[]⟩, .slice none 0 0, .slice none 0 0, .slice none 0 0] 33)
    refine hK.out _ _ (⟨hHeld.1.alloc _, (b1.cell (p := ⟨bp, a * 2, none⟩) hbp).trans HCA.out, (b1.cell (p := ⟨bp, b * 2, none⟩) hbp).trans HCB.out⟩) (fun hHeld => ?_)
    clear hK K
    try simp only [Act.put, List.setIfInBounds_toArray, List.set_cons_zero, List.set_cons_succ]
    refine wpHT_all [19, 21] (by kernel_rfl) ?_
    refine ht_cons (i := 19) rfl (fun K hK => ?_) (ht_cons (i := 21) rfl (fun K hK => ?_) (allHT.nil))
    · go_simp
      have b2 := b1.alloc b1.size (.cells #[.string pa, .string pb] 9)
      refine hK.out _ _ (⟨hHeld.1.alloc _, (b2.cell (p := ⟨bp, a * 2, none⟩) hbp).trans HCA.out, (b2.cell (p := ⟨bp, b * 2, none⟩) hbp).trans HCB.out⟩) (fun hHeld => ?_)
      clear hK K
      try simp only [Act.put, List.setIfInBounds_toArray, List.set_cons_zero, List.set_cons_succ]
      refine ht_one 21 rfl (by kernel_rfl) (fun K hK => ?_)
      go_simp
      have b3 := b2.alloc b2.size (.cells #[.string f] 9)
      refine hK.out _ _ (⟨hHeld.1.alloc _, (b3.cell (p := ⟨bp, a * 2, none⟩) hbp).trans HCA.out, (b3.cell (p := ⟨bp, b * 2, none⟩) hbp).trans HCB.out⟩) (fun hHeld => ?_)
      clear hK K
      try simp only [Act.put, List.setIfInBounds_toArray, List.set_cons_zero, List.set_cons_succ]
      refine ht_take 26 (v := ?vr_29) rfl (by kernel_rfl) (fun _ _ _ h => h) (Or.inl ⟨by rfl, ?hr_29⟩) hHeld ?rr_29
      case hr_29 => ((intro U hSw; have y0 : U.cell? ⟨w.heap.size, 3, none⟩ = some (.slice (some ⟨bp, 0, none⟩) m2.parts.length cP) := hSw.1.cell 3; have y1 := hSw.2.1; have y2 := hSw.2.2; go_simp); (try (with_reducible rfl)))
      try simp only [Act.put, List.setIfInBounds_toArray, List.set_cons_zero, List.set_cons_succ]
      refine ht_done (by kernel_rfl) rfl ?_
      go_wp2_with fail
      refine HZ.out _ _ ?_ _ _ _ _ _ _ _ _ _ _ _ _ _ _ _ _ _ _ _ _ _ _ _ _ _ _ _
      · skip
        have d0 := (Below.refl V2.heap.size V2).drew
        have d1 := d0.alloc d0.size (.cells #[.int .i64 3, .string t, .string pa, .slice (some ⟨V2.heap.size + 1, 0, none⟩) 2 2, .slice (some ⟨V2.heap.size + 1 + 1, 0, none⟩) 1 1, .bool lp, .string ⟨#[]⟩, .slice none 0 0, .slice none 0 0, .slice none 0 0] 33)
        have d2 := d1.alloc d1.size (.cells #[.string pa, .string pb] 9)
        have d3 := d2.alloc d2.size (.cells #[.string f] 9)
        have kI := ((Blk.newB (cs := #[.int .i64 3, .string t, .string pa, .slice (some ⟨V2.heap.size + 1, 0, none⟩) 2 2, .slice (some ⟨V2.heap.size + 1 + 1, 0, none⟩) 1 1, .bool lp, .string ⟨#[]⟩, .slice none 0 0, .slice none 0 0, .slice none 0 0]) (t := 33) d0 (V2.heap.size) rfl).alloc (.cells #[.string pa, .string pb] 9)).alloc (.cells #[.string f] 9)
        have kP := (Blk.newB (cs := #[.string pa, .string pb]) (t := 9) d1 (V2.heap.size + 1) (by simp)).alloc (.cells #[.string f] 9)
        have kF := Blk.newB (cs := #[.string f]) (t := 9) d2 (V2.heap.size + 1 + 1) (by simp)
        refine ⟨V2.heap.size, V2.heap.size + 1, V2.heap.size + 1 + 1, rfl, ⟨by omega, by omega, kI, kP, own_blkG (n := 1) kF (by decide) rfl (by omega)⟩, by omega, by omega, by simp <;> omega, kF, d3⟩
    · go_simp
      have b2 := b1.alloc b1.size (.cells #[.string f] 9)
      refine hK.out _ _ (⟨hHeld.1.alloc _, (b2.cell (p := ⟨bp, a * 2, none⟩) hbp).trans HCA.out, (b2.cell (p := ⟨bp, b * 2, none⟩) hbp).trans HCB.out⟩) (fun hHeld => ?_)
      clear hK K
      try simp only [Act.put, List.setIfInBounds_toArray, List.set_cons_zero, List.set_cons_succ]
      refine ht_one 19 rfl (by kernel_rfl) (fun K hK => ?_)
      go_simp
      have b3 := b2.alloc b2.size (.cells #[.string pa, .string pb] 9)
      refine hK.out _ _ (⟨hHeld.1.alloc _, (b3.cell (p := ⟨bp, a * 2, none⟩) hbp).trans HCA.out, (b3.cell (p := ⟨bp, b * 2, none⟩) hbp).trans HCB.out⟩) (fun hHeld => ?_)
      clear hK K
      try simp only [Act.put, List.setIfInBounds_toArray, List.set_cons_zero, List.set_cons_succ]
      refine ht_take 26 (v := ?vr_30) rfl (by kernel_rfl) (fun _ _ _ h => h) (Or.inl ⟨by rfl, ?hr_30⟩) hHeld ?rr_30
      case hr_30 => ((intro U hSw; have y0 : U.cell? ⟨w.heap.size, 3, none⟩ = some (.slice (some ⟨bp, 0, none⟩) m2.parts.length cP) := hSw.1.cell 3; have y1 := hSw.2.1; have y2 := hSw.2.2; go_simp); (try (with_reducible rfl)))
      try simp only [Act.put, List.setIfInBounds_toArray, List.set_cons_zero, List.set_cons_succ]
      refine ht_done (by kernel_rfl) rfl ?_
      go_wp2_with fail
      refine HZ.out _ _ ?_ _ _ _ _ _ _ _ _ _ _ _ _ _ _ _ _ _ _ _ _ _ _ _ _ _ _ _
      · skip
        have d0 := (Below.refl V2.heap.size V2).drew
        have d1 := d0.alloc d0.size (.cells #[.int .i64 3, .string t, .string pa, .slice (some ⟨V2.heap.size + 1 + 1, 0, none⟩) 2 2, .slice (some ⟨V2.heap.size + 1, 0, none⟩) 1 1, .bool lp, .string ⟨#[]⟩, .slice none 0 0, .slice none 0 0, .slice none 0 0] 33)
        have d2 := d1.alloc d1.size (.cells #[.string f] 9)
        have d3 := d2.alloc d2.size (.cells #[.string pa, .string pb] 9)
        have kI := ((Blk.newB (cs := #[.int .i64 3, .string t, .string pa, .slice (some ⟨V2.heap.size + 1 + 1, 0, none⟩) 2 2, .slice (some ⟨V2.heap.size + 1, 0, none⟩) 1 1, .bool lp, .string ⟨#[]⟩, .slice none 0 0, .slice none 0 0, .slice none 0 0]) (t := 33) d0 (V2.heap.size) rfl).alloc (.cells #[.string f] 9)).alloc (.cells #[.string pa, .string pb] 9)
        have kF := (Blk.newB (cs := #[.string f]) (t := 9) d1 (V2.heap.size + 1) (by simp)).alloc (.cells #[.string pa, .string pb] 9)
        have kP := Blk.newB (cs := #[.string pa, .string pb]) (t := 9) d2 (V2.heap.size + 1 + 1) (by simp)
        refine ⟨V2.heap.size, V2.heap.size + 1 + 1, V2.heap.size + 1, rfl, ⟨by omega, by omega, kI, kP, own_blkG (n := 1) kF (by decide) rfl (by omega)⟩, by omega, by omega, by simp <;> omega, kF, d3⟩
end Go.Proofs.Yteoioboiniealaa
