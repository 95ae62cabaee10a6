/- The end of RulesBad's walk: what the two checks tell is asked; as a lemma over the slots. -/
import Derived.Test.YtljmghaplnkohaaRulXY
import Derived.Deep.DeepCutAuto
namespace Go.Proofs.Ytljmghaplnkohaa
open Go.RowKit
attribute [local go_sem ↓] Go.wp_at_zero Go.wp_at_succ

/-- What follows the region of a number, in a function's code. -/
def restAt (n : Nat) : Code → Option Code
  | .seq a b => match a with
    | .region i _ _ => bif Nat.beq i n then some b else restAt n b
    | _ => match restAt n a with
      | some c => some c
      | none => restAt n b
  | .cond _ a b => match restAt n a with
    | some c => some c
    | none => restAt n b
  | .block _ a => restAt n a
  | .loop a => restAt n a
  | _ => none
set_option maxRecDepth 100000 in
set_option maxHeartbeats 32000000 in
theorem bad_tail {w w1 T2 : World} {c : ChorD} {gb gd gF kF : Nat} {A3 : Option Addr} {c3 : Nat} {AP : Option Addr} {cP : Nat} {xs xsF : List Value} {gI2 gS2 nI kI2 nS kS2 : Nat} {r : Int} {id : ByteArray} {u0 u1 u2 u3 u4 u5 u6 u9 u12 u13 u14 u15 u16 u17 u18 u19 u20 u21 u22 u23 u24 u25 u26 u27 u28 u29 u30 u31 u32 u33 u34 u35 u36 u37 u38 u39 u40 u41 u42 u43 u44 u45 u46 u47 u48 u49 u50 u51 u52 u53 u54 u55 u56 u57 u58 u59 u60 u61 u62 u63 u64 u65 u66 u67 u68 u69 u70 u71 u72 u73 u74 u75 u76 u77 u78 u79 u80 u81 u82 u83 u84 u85 u86 u87 u88 u89 u90 u91 u92 u93 u94 u95 u96 u97 u98 u99 u100 u101 u102 u103 u104 u105 u106 u107 u108 u109 u110 u111 u112 u113 u114 u115 u116 u117 u118 u119 u120 u121 u122 u123 u124 u125 u126 u127 u128 u129 u130 u131 u132 u133 u134 u135 u136 u137 u138 u139 u140 u141 u142 u143 u144 u145 u146 u147 u148 u149 u150 u151 u152 u153 u154 u155 u156 u157 u158 u159 u160 u161 u162 u163 u164 u165 u166 u167 u168 u169 u170 u171 u172 u173 u174 u175 u176 u177 u178 u179 u180 u181 u182 u183 u184 u185 u186 u187 u188 u189 u190 u191 u192 u193 u194 u195 u196 u197 u198 u199 u200 u201 u202 u203 u204 u205 u206 u207 u208 u209 u210 u211 u212 u213 u214 u215 u216 u217 u218 u219 u220 u221 u222 u223 u224 u225 u226 u227 u228 u229 u230 u231 u232 u233 u234 u235 u236 u237 u238 u239 u240 u241 u242 u243 u244 u245 u246 u247 u248 u249 u250 u251 u252 u253 u254 u255 u256 u257 u258 u259 u260 u261 u262 u263 u264 u265 u266 u267 u268 u269 u270 u271 u272 u273 u274 u275 u276 u277 u278 u279 u280 u281 u282 u283 u284 u285 u286 u287 u288 u289 u290 u291 u292 u293 u294 u295 u296 u297 u298 u299 u300 u301 u302 u303 u304 u305 u306 u307 u308 u309 u310 u311 u312 u313 u314 u315 u316 u317 u318 u319 u320 u321 u322 u323 u324 u325 u326 u327 u328 u329 u330 u331 u332 u333 u334 u335 u336 u337 u338 u339 u340 u341 u342 u343 u344 u345 u346 u347 u348 u349 u350 u351 u352 u353 u354 u355 u356 u357 u358 u359 u360 u361 u362 u363 u364 u365 u366 u367 u368 u369 u370 u371 u372 u373 u374 u375 u376 u377 u378 u379 u380 u381 u382 u383 u384 u385 u386 u387 u388 u389 u390 u391 u392 : Value}
    (HB : Hid (BadEnd w1 c gb gd gF kF A3 c3 AP cP xs xsF gI2 gS2 nI kI2 nS kS2 r id T2)) (HB9 : Hid (Below w.heap.size w T2))
    {C R : Code} (hC : (Try.f8.body.bind (regAt 51)) = some C) (hR : (Try.f8.body.bind (restAt 51)) = some R) {K : Act → World → Prop}
    (hK : ∀ a w', Code.wp Try.prog R (bodyPost Try.prog Try.f8 (fun e w' => e = .returned (.bool true) ∧ Below w.heap.size w w')) a w' → K a w') :
    Code.wp Try.prog C (Exit.then K (bodyPost Try.prog Try.f8 (fun e w' => e = .returned (.bool true) ∧ Below w.heap.size w w'))) ⟨#[u0, u1, u2, u3, u4, u5, u6, .pointer (some ⟨gd, 0, none⟩), .pointer (some ⟨gb, 0, none⟩), u9, .int .i64 r, .string id, u12, u13, u14, u15, u16, u17, u18, u19, u20, u21, u22, u23, u24, u25, u26, u27, u28, u29, u30, u31, u32, u33, u34, u35, u36, u37, u38, u39, u40, u41, u42, u43, u44, u45, u46, u47, u48, u49, u50, u51, u52, u53, u54, u55, u56, u57, u58, u59, u60, u61, u62, u63, u64, u65, u66, u67, u68, u69, u70, u71, u72, u73, u74, u75, u76, u77, u78, u79, u80, u81, u82, u83, u84, u85, u86, u87, u88, u89, u90, u91, u92, u93, u94, u95, u96, u97, u98, u99, u100, u101, u102, u103, u104, u105, u106, u107, u108, u109, u110, u111, u112, u113, u114, u115, u116, u117, u118, u119, u120, u121, u122, u123, u124, u125, u126, u127, u128, u129, u130, u131, u132, u133, u134, u135, u136, u137, u138, u139, u140, u141, u142, u143, u144, u145, u146, u147, u148, u149, u150, u151, u152, u153, u154, u155, u156, u157, u158, u159, u160, u161, u162, u163, u164, u165, u166, u167, u168, u169, u170, u171, u172, u173, u174, u175, u176, u177, u178, u179, u180, u181, u182, u183, u184, u185, u186, u187, u188, u189, u190, u191, u192, u193, u194, u195, u196, u197, u198, u199, u200, u201, u202, u203, u204, u205, u206, u207, u208, u209, u210, u211, u212, u213, u214, u215, u216, u217, u218, u219, u220, u221, u222, u223, u224, u225, u226, u227, u228, u229, u230, u231, u232, u233, u234, u235, u236, u237, u238, u239, u240, u241, u242, u243, u244, u245, u246, u247, u248, u249, u250, u251, u252, u253, u254, u255, u256, u257, u258, u259, u260, u261, u262, u263, u264, u265, u266, u267, u268, u269, u270, u271, u272, u273, u274, u275, u276, u277, u278, u279, u280, u281, u282, u283, u284, u285, u286, u287, u288, u289, u290, u291, u292, u293, u294, u295, u296, u297, u298, u299, u300, u301, u302, u303, u304, u305, u306, u307, u308, u309, u310, u311, u312, u313, u314, u315, u316, u317, u318, u319, u320, u321, u322, u323, u324, u325, u326, u327, u328, u329, u330, u331, u332, u333, u334, u335, u336, u337, u338, u339, u340, u341, u342, u343, u344, u345, u346, u347, u348, u349, u350, u351, u352, u353, u354, u355, u356, u357, u358, u359, u360, u361, u362, u363, u364, u365, u366, u367, u368, u369, u370, u371, u372, u373, u374, u375, u376, u377, u378, u379, u380, u381, u382, u383, u384, u385, u386, u387, u388, u389, u390, u391, u392], []⟩ T2 := by
  have hc2 : some _ = some C := hC
  injection hc2 with hc3
  subst hc3
  have hr2 : some _ = some R := hR
  injection hr2 with hr3
  subst hr3
  have HK := Lib.hid hK
  clear hK
  obtain ⟨⟨ysI, ysS, hE2⟩, hRC⟩ := HB.out
  have HRC := Lib.hid hRC
  have HE2 := Lib.hid hE2
  have d0 : T2.cell? ⟨gd, 0, none⟩ = some (.slice A3 4 c3) := hE2.box.cell 0
  have d1 : T2.cell? ⟨gd, 1, none⟩ = some (.slice (some ⟨gb, 0, none⟩) 1 1) := hE2.box.cell 1
  have lgdT := hE2.box.lt
  clear hRC hE2 HB
  go_wp2_with fail
  refine (HRC.out T2 (Below.refl _ _)).1.mono ?_
  rintro e w5 ⟨rfl, hb5⟩
  have HB5 := Lib.hid hb5
  have HE5 := Lib.hid (HE2.out.below hb5)
  clear hb5 d0 d1 lgdT
  have HY5 := Lib.hid HE5.out.cells
  go_wp2_with fail
  refine HK.out _ _ ?_
  clear HK
  go_upto_region 52 with fail
  refine wp_region_HT 9 (fun U => Below w5.heap.size w5 U) (by kernel_rfl) (by decide) ((Below.refl _ _).drew) (fun hHeld => ?_)
  refine ht_take 0 (v := ?vn_1) rfl (by kernel_rfl) (fun _ _ _ h => h) (Or.inl ⟨by rfl, ?hn_1⟩) hHeld ?rn_1
  case hn_1 => ((intro U hS; obtain ⟨u0, u1, z0, z1, z2, z3, z4⟩ := HY5.out U hS; go_simp); (try (with_reducible rfl)))
  try simp only [Act.put, List.setIfInBounds_toArray, List.set_cons_zero, List.set_cons_succ]
  refine ht_take 1 (v := ?vn_2) rfl (by kernel_rfl) (fun _ _ _ h => h) (Or.inl ⟨by rfl, ?hn_2⟩) hHeld ?rn_2
  case hn_2 => ((intro U hS; obtain ⟨u0, u1, z0, z1, z2, z3, z4⟩ := HY5.out U hS; go_simp); (try (with_reducible rfl)))
  try simp only [Act.put, List.setIfInBounds_toArray, List.set_cons_zero, List.set_cons_succ]
  refine ht_take 2 (v := ?vn_3) rfl (by kernel_rfl) (fun _ _ _ h => h) (Or.inl ⟨by rfl, ?hn_3⟩) hHeld ?rn_3
  case hn_3 => ((intro U hS; obtain ⟨u0, u1, z0, z1, z2, z3, z4⟩ := HY5.out U hS; go_simp); (try (with_reducible rfl)))
  try simp only [Act.put, List.setIfInBounds_toArray, List.set_cons_zero, List.set_cons_succ]
  refine ht_take 3 (v := ?vn_4) rfl (by kernel_rfl) (fun _ _ _ h => h) (Or.inl ⟨by rfl, ?hn_4⟩) hHeld ?rn_4
  case hn_4 => ((intro U hS; obtain ⟨u0, u1, z0, z1, z2, z3, z4⟩ := HY5.out U hS; go_simp); (try (with_reducible rfl)))
  try simp only [Act.put, List.setIfInBounds_toArray, List.set_cons_zero, List.set_cons_succ]
  refine ht_one 4 rfl (by kernel_rfl) (fun K hK => ?_)
  go_simp
  refine (HRC.out _ (HB5.out.trans (hHeld.mono HB5.out.size))).2.mono ?_
  rintro e w6 ⟨rfl, hb6⟩
  go_wp2_with fail
  refine hK.out _ _ (hHeld.trans (hb6.mono hHeld.size)) (fun hHeld => ?_)
  clear hK K
  try simp only [Act.put, List.setIfInBounds_toArray, List.set_cons_zero, List.set_cons_succ]
  refine ht_take 5 (v := ?vn_5) rfl (by kernel_rfl) (fun _ _ _ h => h) (Or.inl ⟨by rfl, ?hn_5⟩) hHeld ?rn_5
  case hn_5 => ((intro U hS; obtain ⟨u0, u1, z0, z1, z2, z3, z4⟩ := HY5.out U hS; go_simp); (try (with_reducible rfl)))
  try simp only [Act.put, List.setIfInBounds_toArray, List.set_cons_zero, List.set_cons_succ]
  refine ht_take 6 (v := ?vn_6) rfl (by kernel_rfl) (fun _ _ _ h => h) (Or.inl ⟨by rfl, ?hn_6⟩) hHeld ?rn_6
  case hn_6 => ((intro U hS; obtain ⟨u0, u1, z0, z1, z2, z3, z4⟩ := HY5.out U hS; go_simp); (try (with_reducible rfl)))
  try simp only [Act.put, List.setIfInBounds_toArray, List.set_cons_zero, List.set_cons_succ]
  refine ht_take 7 (v := ?vn_7) rfl (by kernel_rfl) (fun _ _ _ h => h) (Or.inl ⟨by rfl, ?hn_7⟩) hHeld ?rn_7
  case hn_7 => ((intro U hS; obtain ⟨u0, u1, z0, z1, z2, z3, z4⟩ := HY5.out U hS; go_simp); (try (with_reducible rfl)))
  try simp only [Act.put, List.setIfInBounds_toArray, List.set_cons_zero, List.set_cons_succ]
  refine ht_take 8 (v := ?vn_8) rfl (by kernel_rfl) (fun _ _ _ h => h) (Or.inl ⟨by rfl, ?hn_8⟩) hHeld ?rn_8
  case hn_8 => ((intro U hS; obtain ⟨u0, u1, z0, z1, z2, z3, z4⟩ := HY5.out U hS; go_simp); (try (with_reducible rfl)))
  try simp only [Act.put, List.setIfInBounds_toArray, List.set_cons_zero, List.set_cons_succ]
  refine ht_done (by kernel_rfl) rfl ?_
  have HH := Lib.hid hHeld
  clear hHeld
  go_wp2_with fail
  refine (awake_any _).mono ?_
  rintro e w7 ⟨rfl, hb7⟩
  have h57 := HH.out.trans (hb7.mono HH.out.size)
  have h27 := HB5.out.trans (h57.mono HB5.out.size)
  have HFI := Lib.hid (HB9.out.trans (h27.mono HB9.out.size))
  clear hb7 h57 h27
  go_wp2_with fail
  go_ret
  exact ⟨rfl, HFI.out⟩
end Go.Proofs.Ytljmghaplnkohaa
