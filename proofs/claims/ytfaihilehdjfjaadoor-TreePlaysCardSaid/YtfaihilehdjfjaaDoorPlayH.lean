/- The law TreePlays: what a round does. -/
import Derived.Test.YtfaihilehdjfjaaDoorPlayT
import Derived.Deep.DeepCutAuto
namespace Go.Proofs.YtfaihilehdjfjaaDoor
open Go.ChangeShapes Go.WideShapes Go.ChangeAt Go.RowKit

set_option maxRecDepth 40000 in
theorem tail_a {w w'' : World} {E : Value} {b i : Nat} {a' : Act} {Q : Exit → Act → World → Prop} (h : PlayS w E b i a' w'') (hi : i < 200) (hQ : ∀ a' w'', PlayS w E b i a' w'' → Q .normal a' w'') :
    Code.wp Tryd.prog playTail Q a' w'' := by
  obtain ⟨⟨hs, hd, h0, h3⟩, h6, t, k, v4, v5, h4, h5, HI⟩ := h
  refine frame_of (fun a => At a 0 E → At a 3 (.pointer (some ⟨b, 0, none⟩)) → At a 6 (.int .i64 i) → At a 4 v4 → At a 5 v5 → Code.wp Tryd.prog playTail Q a w'') hs hd ?_ h0 h3 h6 h4 h5
  intro u0 u1 u2 u3 u4 u5 u6 u7 u8 u9 u10 u11 u12 u13 u14 u15 u16 u17 u18 u19 u20 u21 u22 u23 u24 u25 u26 u27 u28 u29 u30 u31 u32 u33 u34 u35 u36 u37 u38 u39 u40 u41 u42 u43 u44 u45 u46 u47 u48 u49 u50 u51 u52 u53 u54 u55 u56 u57 u58 u59 u60 u61 u62 u63 u64 u65 u66 u67 u68 u69 u70 u71 u72 u73 u74 u75 u76 u77 u78 u79 u80 u81 u82 u83 u84 u85 u86 u87 u88 u89 u90 u91 u92 u93 u94 u95 u96 u97 u98 u99 u100 u101 u102 u103 u104 u105 u106 u107 u108 u109 u110 u111 u112 u113 u114 u115 u116 u117 u118 u119 u120 u121 u122 u123 u124 u125 u126 u127 u128 u129 u130 u131 u132 u133 u134 u135 u136 u137 u138 u139 u140 u141 u142 u143 u144 u145 u146 u147 u148 u149 u150 u151 u152 u153 u154 u155 u156 u157 u158 u159 u160 u161 u162 u163 u164 u165 u166 u167 u168 u169 u170 u171 u172 u173 u174 u175 u176 u177 u178 u179 u180 u181 u182 u183 u184 u185 u186 u187 u188 u189 u190 u191 u192 u193 u194 u195 u196 u197 u198 u199 u200 u201 u202 u203 u204 u205 u206 u207 u208 u209 u210 u211 u212 u213 u214 u215 u216 u217 u218 u219 u220 u221 u222 u223 u224 u225 u226 u227 u228 u229 u230 u231 u232 u233 u234 u235 u236 u237 u238 u239 u240 u241 u242 u243 u244 u245 u246 u247 u248 u249 u250 u251 u252 u253 u254 u255 u256 u257 u258 u259 u260 u261 u262 u263 u264 u265 u266 u267 u268 u269 u270 u271 u272 u273 u274 u275 u276 u277 u278 u279 u280 u281 u282 u283 u284 u285 u286 u287 u288 u289 u290 u291 u292 u293 u294 u295 u296 u297 u298 u299 u300 u301 u302 u303 u304 u305 u306 u307 u308 u309 u310 u311 u312 u313 u314 u315 u316 u317 u318 u319 u320 u321 u322 u323 u324 u325 u326 u327 h0 h3 h6 h4 h5
  have e0 : u0 = E := Option.some.inj h0
  have e3 : u3 = .pointer (some ⟨b, 0, none⟩) := Option.some.inj h3
  have e4 : u4 = v4 := Option.some.inj h4
  have e5 : u5 = v5 := Option.some.inj h5
  have e6 : u6 = .int .i64 i := Option.some.inj h6
  subst e0 e3 e4 e5 e6
  exact tail_ u1 u2 u7 u8 u9 u10 u11 u12 u13 u14 u15 u16 u17 u18 u19 u20 u21 u22 u23 u24 u25 u26 u27 u28 u29 u30 u31 u32 u33 u34 u35 u36 u37 u38 u39 u40 u41 u42 u43 u44 u45 u46 u47 u48 u49 u50 u51 u52 u53 u54 u55 u56 u57 u58 u59 u60 u61 u62 u63 u64 u65 u66 u67 u68 u69 u70 u71 u72 u73 u74 u75 u76 u77 u78 u79 u80 u81 u82 u83 u84 u85 u86 u87 u88 u89 u90 u91 u92 u93 u94 u95 u96 u97 u98 u99 u100 u101 u102 u103 u104 u105 u106 u107 u108 u109 u110 u111 u112 u113 u114 u115 u116 u117 u118 u119 u120 u121 u122 u123 u124 u125 u126 u127 u128 u129 u130 u131 u132 u133 u134 u135 u136 u137 u138 u139 u140 u141 u142 u143 u144 u145 u146 u147 u148 u149 u150 u151 u152 u153 u154 u155 u156 u157 u158 u159 u160 u161 u162 u163 u164 u165 u166 u167 u168 u169 u170 u171 u172 u173 u174 u175 u176 u177 u178 u179 u180 u181 u182 u183 u184 u185 u186 u187 u188 u189 u190 u191 u192 u193 u194 u195 u196 u197 u198 u199 u200 u201 u202 u203 u204 u205 u206 u207 u208 u209 u210 u211 u212 u213 u214 u215 u216 u217 u218 u219 u220 u221 u222 u223 u224 u225 u226 u227 u228 u229 u230 u231 u232 u233 u234 u235 u236 u237 u238 u239 u240 u241 u242 u243 u244 u245 u246 u247 u248 u249 u250 u251 u252 u253 u254 u255 u256 u257 u258 u259 u260 u261 u262 u263 u264 u265 u266 u267 u268 u269 u270 u271 u272 u273 u274 u275 u276 u277 u278 u279 u280 u281 u282 u283 u284 u285 u286 u287 u288 u289 u290 u291 u292 u293 u294 u295 u296 u297 u298 u299 u300 u301 u302 u303 u304 u305 u306 u307 u308 u309 u310 u311 u312 u313 u314 u315 u316 u317 u318 u319 u320 u321 u322 u323 u324 u325 u326 u327 w w'' u0 b i k t u4 u5 Q hi HI hQ
set_option maxHeartbeats 8000000 in
set_option maxRecDepth 40000 in
theorem head_ (u1 u2 u7 u8 u9 u10 u11 u12 u13 u14 u15 u16 u17 u18 u19 u20 u21 u22 u23 u24 u25 u26 u27 u28 u29 u30 u31 u32 u33 u34 u35 u36 u37 u38 u39 u40 u41 u42 u43 u44 u45 u46 u47 u48 u49 u50 u51 u52 u53 u54 u55 u56 u57 u58 u59 u60 u61 u62 u63 u64 u65 u66 u67 u68 u69 u70 u71 u72 u73 u74 u75 u76 u77 u78 u79 u80 u81 u82 u83 u84 u85 u86 u87 u88 u89 u90 u91 u92 u93 u94 u95 u96 u97 u98 u99 u100 u101 u102 u103 u104 u105 u106 u107 u108 u109 u110 u111 u112 u113 u114 u115 u116 u117 u118 u119 u120 u121 u122 u123 u124 u125 u126 u127 u128 u129 u130 u131 u132 u133 u134 u135 u136 u137 u138 u139 u140 u141 u142 u143 u144 u145 u146 u147 u148 u149 u150 u151 u152 u153 u154 u155 u156 u157 u158 u159 u160 u161 u162 u163 u164 u165 u166 u167 u168 u169 u170 u171 u172 u173 u174 u175 u176 u177 u178 u179 u180 u181 u182 u183 u184 u185 u186 u187 u188 u189 u190 u191 u192 u193 u194 u195 u196 u197 u198 u199 u200 u201 u202 u203 u204 u205 u206 u207 u208 u209 u210 u211 u212 u213 u214 u215 u216 u217 u218 u219 u220 u221 u222 u223 u224 u225 u226 u227 u228 u229 u230 u231 u232 u233 u234 u235 u236 u237 u238 u239 u240 u241 u242 u243 u244 u245 u246 u247 u248 u249 u250 u251 u252 u253 u254 u255 u256 u257 u258 u259 u260 u261 u262 u263 u264 u265 u266 u267 u268 u269 u270 u271 u272 u273 u274 u275 u276 u277 u278 u279 u280 u281 u282 u283 u284 u285 u286 u287 u288 u289 u290 u291 u292 u293 u294 u295 u296 u297 u298 u299 u300 u301 u302 u303 u304 u305 u306 u307 u308 u309 u310 u311 u312 u313 u314 u315 u316 u317 u318 u319 u320 u321 u322 u323 u324 u325 u326 u327 : Value) (w wr : World) (b i k n c bo off c1 : Nat) (t : T) (v4 v5 : Value) (A1 : Option Addr) (s : List Int) (Q : Exit → Act → World → Prop) (hE : Hid (ErrT w)) (hi : i < 200) (hin : i < n)
    (HI : Hid (PlayI w wr b t k v4 v5 ∧ t.cnt ≤ i ∧ k ≤ 1000 * i)) (HS : Hid (Reads (· < w.heap.size) w 1 A1 s.length (intsC s))) (hx : wr.cell? ⟨bo, off + i, none⟩ = some (.slice A1 s.length c1))
    (hw0 : Hid (-9223372036854775808 ≤ s.getD 0 0 ∧ s.getD 0 0 ≤ 9223372036854775807)) (hw1 : -9223372036854775808 ≤ s.getD 1 0 ∧ s.getD 1 0 ≤ 9223372036854775807)
    (hQ : ∀ a' w'', PlayS w (.slice (some ⟨bo, off, none⟩) n c) b i a' w'' → Q .normal a' w'') :
    Code.wp Tryd.prog playBlk Q ⟨#[.slice (some ⟨bo, off, none⟩) n c, u1, u2, .pointer (some ⟨b, 0, none⟩), v4, v5, .int .i64 i, u7, u8, u9, u10, u11, u12, u13, u14, u15, u16, u17, u18, u19, u20, u21, u22, u23, u24, u25, u26, u27, u28, u29, u30, u31, u32, u33, u34, u35, u36, u37, u38, u39, u40, u41, u42, u43, u44, u45, u46, u47, u48, u49, u50, u51, u52, u53, u54, u55, u56, u57, u58, u59, u60, u61, u62, u63, u64, u65, u66, u67, u68, u69, u70, u71, u72, u73, u74, u75, u76, u77, u78, u79, u80, u81, u82, u83, u84, u85, u86, u87, u88, u89, u90, u91, u92, u93, u94, u95, u96, u97, u98, u99, u100, u101, u102, u103, u104, u105, u106, u107, u108, u109, u110, u111, u112, u113, u114, u115, u116, u117, u118, u119, u120, u121, u122, u123, u124, u125, u126, u127, u128, u129, u130, u131, u132, u133, u134, u135, u136, u137, u138, u139, u140, u141, u142, u143, u144, u145, u146, u147, u148, u149, u150, u151, u152, u153, u154, u155, u156, u157, u158, u159, u160, u161, u162, u163, u164, u165, u166, u167, u168, u169, u170, u171, u172, u173, u174, u175, u176, u177, u178, u179, u180, u181, u182, u183, u184, u185, u186, u187, u188, u189, u190, u191, u192, u193, u194, u195, u196, u197, u198, u199, u200, u201, u202, u203, u204, u205, u206, u207, u208, u209, u210, u211, u212, u213, u214, u215, u216, u217, u218, u219, u220, u221, u222, u223, u224, u225, u226, u227, u228, u229, u230, u231, u232, u233, u234, u235, u236, u237, u238, u239, u240, u241, u242, u243, u244, u245, u246, u247, u248, u249, u250, u251, u252, u253, u254, u255, u256, u257, u258, u259, u260, u261, u262, u263, u264, u265, u266, u267, u268, u269, u270, u271, u272, u273, u274, u275, u276, u277, u278, u279, u280, u281, u282, u283, u284, u285, u286, u287, u288, u289, u290, u291, u292, u293, u294, u295, u296, u297, u298, u299, u300, u301, u302, u303, u304, u305, u306, u307, u308, u309, u310, u311, u312, u313, u314, u315, u316, u317, u318, u319, u320, u321, u322, u323, u324, u325, u326, u327], []⟩ wr := by
  have o4 := HI.out.1.lists.own4
  rw [T.things_length] at o4
  obtain ⟨A4, c4, rfl, -, -, -⟩ := Reads.of_own o4
  clear o4
  obtain ⟨kk, hk1⟩ : ∃ kk, s.getD 1 0 = kk := ⟨_, rfl⟩
  obtain ⟨y, hy1⟩ : ∃ y, s.getD 3 0 = y := ⟨_, rfl⟩
  have hkb : -9223372036854775808 ≤ kk ∧ kk ≤ 9223372036854775807 := hk1 ▸ hw1
  have hkk := Lib.hid hk1
  have hy := Lib.hid hy1
  have hcb : t.cnt ≤ 1000 := by have := HI.out.2.1; omega
  clear hk1 hy1 hw1
  conv => arg 2; whnf
  have h3 : kk < 0 ∨ (0 ≤ kk ∧ kk < t.cnt) ∨ (0 ≤ kk ∧ t.cnt ≤ kk) := by omega
  have h4 : y < 0 ∨ (0 ≤ y ∧ y ≤ 1000000) ∨ (0 ≤ y ∧ 1000000 < y) := by omega
  rcases h3 with g1 | g1 | g1 <;> rcases h4 with g2 | g2 | g2
  · have d1 : decide (0 ≤ kk) = false := decide_eq_false (by omega)
    have d3 : decide (0 ≤ y) = false := decide_eq_false (by omega)
    go_wp2_with fail
    go_at_call 21
    refine (at_s HS HI.out.1.work.below 1 c1).mono ?_
    rintro e wq ⟨rfl, e1⟩
    rw [e1, hkk.out]
    clear e1 wq
    go_wp2_with fail
    go_at_call 21
    refine (at_s HS HI.out.1.work.below 3 c1).mono ?_
    rintro e wq ⟨rfl, e1⟩
    rw [e1, hy.out]
    clear e1 wq

    go_upto_region 11 with fail
    rename_i K2 hK2 K hK
    have HK2 := Lib.hid hK2
    clear hK2
    have HK := Lib.hid hK
    clear hK
    go_wp2_with fail
    go_at_call 21
    refine (at_s HS HI.out.1.work.below 0 c1).mono ?_
    rintro e wq ⟨rfl, e1⟩
    rw [e1]
    clear e1 wq
    go_wp2_with fail
    go_at_call 22
    refine (pick_any (s.getD 0 0) 7 wr hw0.out (by omega)).mono ?_
    rintro e wq ⟨rfl, e1⟩
    rw [e1]
    clear e1 wq
    have hc7 : 0 ≤ ((s.getD 0 0).tmod 7 + 7) % 7 ∧ ((s.getD 0 0).tmod 7 + 7) % 7 < 7 := by omega
    generalize ((s.getD 0 0).tmod 7 + 7) % 7 = cc at hc7 ⊢
    have hg : Hid (false = decide (0 ≤ y ∧ y ≤ 1000000)) := by
      show false = _
      first | exact (decide_eq_true (by omega)).symm | exact (decide_eq_false (by omega)).symm
    have hb : Hid (false = decide (0 ≤ kk ∧ kk < t.cnt)) := by
      show false = _
      first | exact (decide_eq_true (by omega)).symm | exact (decide_eq_false (by omega)).symm
    go_wp2_with fail
    apply HK.out
    refine swAll _ _ _ _ _ _ _ _ _ _ _ _ _ _ _ _ _ _ _ _ _ _ _ _ _ _ _ _ _ _ _ _ _ _ _ _ _ _ _ _ _ _ _ _ _ _ _ _ _ _ _ _ _ _ _ _ _ _ _ _ _ _ _ _ _ _ _ _ _ _ _ _ _ _ _ _ _ _ _ _ _ _ _ _ _ _ _ _ _ _ _ _ _ _ _ _ _ _ _ _ _ _ _ _ _ _ _ _ _ _ _ _ _ _ _ _ _ _ _ _ _ _ _ _ _ _ _ _ _ _ _ _ _ _ _ _ _ _ _ _ _ _ _ _ _ _ _ _ _ _ _ _ _ _ _ _ _ _ _ _ _ _ _ _ _ _ _ _ _ _ _ _ _ _ _ _ _ _ _ _ _ _ _ _ _ _ _ _ _ _ _ _ _ _ _ _ _ _ _ _ _ _ _ _ _ _ _ _ _ _ _ _ _ _ _ _ _ _ _ _ _ _ _ _ _ _ _ _ _ _ _ _ _ _ _ _ _ _ _ _ _ _ _ _ _ _ _ _ _ _ _ _ _ _ _ _ _ _ _ _ _ _ _ _ _ _ _ _ _ _ _ _ _ _ _ _ _ _ _ _ _ _ _ _ _ _ _ _ _ _ _ _ _ _ _ _ _ _ _ _ _ _ _ _ _ _ _ _ _ _ _ _ _ _ _ _ _ false cc w wr _ b i k c1 t _ _ A1 s kk y false _ hE hi HI HS hkk hy hkb hg (fun a' w'' hS => ?_) hc7 hb.out
    exact HK2.out _ _ (tail_a hS hi hQ)
  · have d1 : decide (0 ≤ kk) = false := decide_eq_false (by omega)
    have d3 : decide (0 ≤ y) = true := decide_eq_true (by omega)
    have d4 : decide (y ≤ 1000000) = true := decide_eq_true (by omega)
    go_wp2_with fail
    go_at_call 21
    refine (at_s HS HI.out.1.work.below 1 c1).mono ?_
    rintro e wq ⟨rfl, e1⟩
    rw [e1, hkk.out]
    clear e1 wq
    go_wp2_with fail
    go_at_call 21
    refine (at_s HS HI.out.1.work.below 3 c1).mono ?_
    rintro e wq ⟨rfl, e1⟩
    rw [e1, hy.out]
    clear e1 wq

    go_wp2_with fail
    go_at_call 21
    refine (at_s HS HI.out.1.work.below 3 c1).mono ?_
    rintro e wq ⟨rfl, e1⟩
    rw [e1, hy.out]
    clear e1 wq
    go_upto_region 11 with fail
    rename_i K2 hK2 K hK
    have HK2 := Lib.hid hK2
    clear hK2
    have HK := Lib.hid hK
    clear hK
    go_wp2_with fail
    go_at_call 21
    refine (at_s HS HI.out.1.work.below 0 c1).mono ?_
    rintro e wq ⟨rfl, e1⟩
    rw [e1]
    clear e1 wq
    go_wp2_with fail
    go_at_call 22
    refine (pick_any (s.getD 0 0) 7 wr hw0.out (by omega)).mono ?_
    rintro e wq ⟨rfl, e1⟩
    rw [e1]
    clear e1 wq
    have hc7 : 0 ≤ ((s.getD 0 0).tmod 7 + 7) % 7 ∧ ((s.getD 0 0).tmod 7 + 7) % 7 < 7 := by omega
    generalize ((s.getD 0 0).tmod 7 + 7) % 7 = cc at hc7 ⊢
    have hg : Hid (true = decide (0 ≤ y ∧ y ≤ 1000000)) := by
      show true = _
      first | exact (decide_eq_true (by omega)).symm | exact (decide_eq_false (by omega)).symm
    have hb : Hid (false = decide (0 ≤ kk ∧ kk < t.cnt)) := by
      show false = _
      first | exact (decide_eq_true (by omega)).symm | exact (decide_eq_false (by omega)).symm
    go_wp2_with fail
    apply HK.out
    refine swAll _ _ _ _ _ _ _ _ _ _ _ _ _ _ _ _ _ _ _ _ _ _ _ _ _ _ _ _ _ _ _ _ _ _ _ _ _ _ _ _ _ _ _ _ _ _ _ _ _ _ _ _ _ _ _ _ _ _ _ _ _ _ _ _ _ _ _ _ _ _ _ _ _ _ _ _ _ _ _ _ _ _ _ _ _ _ _ _ _ _ _ _ _ _ _ _ _ _ _ _ _ _ _ _ _ _ _ _ _ _ _ _ _ _ _ _ _ _ _ _ _ _ _ _ _ _ _ _ _ _ _ _ _ _ _ _ _ _ _ _ _ _ _ _ _ _ _ _ _ _ _ _ _ _ _ _ _ _ _ _ _ _ _ _ _ _ _ _ _ _ _ _ _ _ _ _ _ _ _ _ _ _ _ _ _ _ _ _ _ _ _ _ _ _ _ _ _ _ _ _ _ _ _ _ _ _ _ _ _ _ _ _ _ _ _ _ _ _ _ _ _ _ _ _ _ _ _ _ _ _ _ _ _ _ _ _ _ _ _ _ _ _ _ _ _ _ _ _ _ _ _ _ _ _ _ _ _ _ _ _ _ _ _ _ _ _ _ _ _ _ _ _ _ _ _ _ _ _ _ _ _ _ _ _ _ _ _ _ _ _ _ _ _ _ _ _ _ _ _ _ _ _ _ _ _ _ _ _ _ _ _ _ _ _ _ _ _ false cc w wr _ b i k c1 t _ _ A1 s kk y true _ hE hi HI HS hkk hy hkb hg (fun a' w'' hS => ?_) hc7 hb.out
    exact HK2.out _ _ (tail_a hS hi hQ)
  · have d1 : decide (0 ≤ kk) = false := decide_eq_false (by omega)
    have d3 : decide (0 ≤ y) = true := decide_eq_true (by omega)
    have d4 : decide (y ≤ 1000000) = false := decide_eq_false (by omega)
    go_wp2_with fail
    go_at_call 21
    refine (at_s HS HI.out.1.work.below 1 c1).mono ?_
    rintro e wq ⟨rfl, e1⟩
    rw [e1, hkk.out]
    clear e1 wq
    go_wp2_with fail
    go_at_call 21
    refine (at_s HS HI.out.1.work.below 3 c1).mono ?_
    rintro e wq ⟨rfl, e1⟩
    rw [e1, hy.out]
    clear e1 wq

    go_wp2_with fail
    go_at_call 21
    refine (at_s HS HI.out.1.work.below 3 c1).mono ?_
    rintro e wq ⟨rfl, e1⟩
    rw [e1, hy.out]
    clear e1 wq
    go_upto_region 11 with fail
    rename_i K2 hK2 K hK
    have HK2 := Lib.hid hK2
    clear hK2
    have HK := Lib.hid hK
    clear hK
    go_wp2_with fail
    go_at_call 21
    refine (at_s HS HI.out.1.work.below 0 c1).mono ?_
    rintro e wq ⟨rfl, e1⟩
    rw [e1]
    clear e1 wq
    go_wp2_with fail
    go_at_call 22
    refine (pick_any (s.getD 0 0) 7 wr hw0.out (by omega)).mono ?_
    rintro e wq ⟨rfl, e1⟩
    rw [e1]
    clear e1 wq
    have hc7 : 0 ≤ ((s.getD 0 0).tmod 7 + 7) % 7 ∧ ((s.getD 0 0).tmod 7 + 7) % 7 < 7 := by omega
    generalize ((s.getD 0 0).tmod 7 + 7) % 7 = cc at hc7 ⊢
    have hg : Hid (false = decide (0 ≤ y ∧ y ≤ 1000000)) := by
      show false = _
      first | exact (decide_eq_true (by omega)).symm | exact (decide_eq_false (by omega)).symm
    have hb : Hid (false = decide (0 ≤ kk ∧ kk < t.cnt)) := by
      show false = _
      first | exact (decide_eq_true (by omega)).symm | exact (decide_eq_false (by omega)).symm
    go_wp2_with fail
    apply HK.out
    refine swAll _ _ _ _ _ _ _ _ _ _ _ _ _ _ _ _ _ _ _ _ _ _ _ _ _ _ _ _ _ _ _ _ _ _ _ _ _ _ _ _ _ _ _ _ _ _ _ _ _ _ _ _ _ _ _ _ _ _ _ _ _ _ _ _ _ _ _ _ _ _ _ _ _ _ _ _ _ _ _ _ _ _ _ _ _ _ _ _ _ _ _ _ _ _ _ _ _ _ _ _ _ _ _ _ _ _ _ _ _ _ _ _ _ _ _ _ _ _ _ _ _ _ _ _ _ _ _ _ _ _ _ _ _ _ _ _ _ _ _ _ _ _ _ _ _ _ _ _ _ _ _ _ _ _ _ _ _ _ _ _ _ _ _ _ _ _ _ _ _ _ _ _ _ _ _ _ _ _ _ _ _ _ _ _ _ _ _ _ _ _ _ _ _ _ _ _ _ _ _ _ _ _ _ _ _ _ _ _ _ _ _ _ _ _ _ _ _ _ _ _ _ _ _ _ _ _ _ _ _ _ _ _ _ _ _ _ _ _ _ _ _ _ _ _ _ _ _ _ _ _ _ _ _ _ _ _ _ _ _ _ _ _ _ _ _ _ _ _ _ _ _ _ _ _ _ _ _ _ _ _ _ _ _ _ _ _ _ _ _ _ _ _ _ _ _ _ _ _ _ _ _ _ _ _ _ _ _ _ _ _ _ _ _ _ _ _ _ false cc w wr _ b i k c1 t _ _ A1 s kk y false _ hE hi HI HS hkk hy hkb hg (fun a' w'' hS => ?_) hc7 hb.out
    exact HK2.out _ _ (tail_a hS hi hQ)
  · have d1 : decide (0 ≤ kk) = true := decide_eq_true (by omega)
    have d2 : decide (kk < (t.cnt : Int)) = true := decide_eq_true (by omega)
    have d3 : decide (0 ≤ y) = false := decide_eq_false (by omega)
    go_wp2_with fail
    go_at_call 21
    refine (at_s HS HI.out.1.work.below 1 c1).mono ?_
    rintro e wq ⟨rfl, e1⟩
    rw [e1, hkk.out]
    clear e1 wq
    go_wp2_with fail
    go_at_call 21
    refine (at_s HS HI.out.1.work.below 3 c1).mono ?_
    rintro e wq ⟨rfl, e1⟩
    rw [e1, hy.out]
    clear e1 wq

    go_upto_region 11 with fail
    rename_i K2 hK2 K hK
    have HK2 := Lib.hid hK2
    clear hK2
    have HK := Lib.hid hK
    clear hK
    go_wp2_with fail
    go_at_call 21
    refine (at_s HS HI.out.1.work.below 0 c1).mono ?_
    rintro e wq ⟨rfl, e1⟩
    rw [e1]
    clear e1 wq
    go_wp2_with fail
    go_at_call 22
    refine (pick_any (s.getD 0 0) 7 wr hw0.out (by omega)).mono ?_
    rintro e wq ⟨rfl, e1⟩
    rw [e1]
    clear e1 wq
    have hc7 : 0 ≤ ((s.getD 0 0).tmod 7 + 7) % 7 ∧ ((s.getD 0 0).tmod 7 + 7) % 7 < 7 := by omega
    generalize ((s.getD 0 0).tmod 7 + 7) % 7 = cc at hc7 ⊢
    have hg : Hid (false = decide (0 ≤ y ∧ y ≤ 1000000)) := by
      show false = _
      first | exact (decide_eq_true (by omega)).symm | exact (decide_eq_false (by omega)).symm
    have hb : Hid (true = decide (0 ≤ kk ∧ kk < t.cnt)) := by
      show true = _
      first | exact (decide_eq_true (by omega)).symm | exact (decide_eq_false (by omega)).symm
    go_wp2_with fail
    apply HK.out
    refine swAll _ _ _ _ _ _ _ _ _ _ _ _ _ _ _ _ _ _ _ _ _ _ _ _ _ _ _ _ _ _ _ _ _ _ _ _ _ _ _ _ _ _ _ _ _ _ _ _ _ _ _ _ _ _ _ _ _ _ _ _ _ _ _ _ _ _ _ _ _ _ _ _ _ _ _ _ _ _ _ _ _ _ _ _ _ _ _ _ _ _ _ _ _ _ _ _ _ _ _ _ _ _ _ _ _ _ _ _ _ _ _ _ _ _ _ _ _ _ _ _ _ _ _ _ _ _ _ _ _ _ _ _ _ _ _ _ _ _ _ _ _ _ _ _ _ _ _ _ _ _ _ _ _ _ _ _ _ _ _ _ _ _ _ _ _ _ _ _ _ _ _ _ _ _ _ _ _ _ _ _ _ _ _ _ _ _ _ _ _ _ _ _ _ _ _ _ _ _ _ _ _ _ _ _ _ _ _ _ _ _ _ _ _ _ _ _ _ _ _ _ _ _ _ _ _ _ _ _ _ _ _ _ _ _ _ _ _ _ _ _ _ _ _ _ _ _ _ _ _ _ _ _ _ _ _ _ _ _ _ _ _ _ _ _ _ _ _ _ _ _ _ _ _ _ _ _ _ _ _ _ _ _ _ _ _ _ _ _ _ _ _ _ _ _ _ _ _ _ _ _ _ _ _ _ _ _ _ _ _ _ _ _ _ _ _ _ _ true cc w wr _ b i k c1 t _ _ A1 s kk y false _ hE hi HI HS hkk hy hkb hg (fun a' w'' hS => ?_) hc7 hb.out
    exact HK2.out _ _ (tail_a hS hi hQ)
  · have d1 : decide (0 ≤ kk) = true := decide_eq_true (by omega)
    have d2 : decide (kk < (t.cnt : Int)) = true := decide_eq_true (by omega)
    have d3 : decide (0 ≤ y) = true := decide_eq_true (by omega)
    have d4 : decide (y ≤ 1000000) = true := decide_eq_true (by omega)
    go_wp2_with fail
    go_at_call 21
    refine (at_s HS HI.out.1.work.below 1 c1).mono ?_
    rintro e wq ⟨rfl, e1⟩
    rw [e1, hkk.out]
    clear e1 wq
    go_wp2_with fail
    go_at_call 21
    refine (at_s HS HI.out.1.work.below 3 c1).mono ?_
    rintro e wq ⟨rfl, e1⟩
    rw [e1, hy.out]
    clear e1 wq

    go_wp2_with fail
    go_at_call 21
    refine (at_s HS HI.out.1.work.below 3 c1).mono ?_
    rintro e wq ⟨rfl, e1⟩
    rw [e1, hy.out]
    clear e1 wq
    go_upto_region 11 with fail
    rename_i K2 hK2 K hK
    have HK2 := Lib.hid hK2
    clear hK2
    have HK := Lib.hid hK
    clear hK
    go_wp2_with fail
    go_at_call 21
    refine (at_s HS HI.out.1.work.below 0 c1).mono ?_
    rintro e wq ⟨rfl, e1⟩
    rw [e1]
    clear e1 wq
    go_wp2_with fail
    go_at_call 22
    refine (pick_any (s.getD 0 0) 7 wr hw0.out (by omega)).mono ?_
    rintro e wq ⟨rfl, e1⟩
    rw [e1]
    clear e1 wq
    have hc7 : 0 ≤ ((s.getD 0 0).tmod 7 + 7) % 7 ∧ ((s.getD 0 0).tmod 7 + 7) % 7 < 7 := by omega
    generalize ((s.getD 0 0).tmod 7 + 7) % 7 = cc at hc7 ⊢
    have hg : Hid (true = decide (0 ≤ y ∧ y ≤ 1000000)) := by
      show true = _
      first | exact (decide_eq_true (by omega)).symm | exact (decide_eq_false (by omega)).symm
    have hb : Hid (true = decide (0 ≤ kk ∧ kk < t.cnt)) := by
      show true = _
      first | exact (decide_eq_true (by omega)).symm | exact (decide_eq_false (by omega)).symm
    go_wp2_with fail
    apply HK.out
    refine swAll _ _ _ _ _ _ _ _ _ _ _ _ _ _ _ _ _ _ _ _ _ _ _ _ _ _ _ _ _ _ _ _ _ _ _ _ _ _ _ _ _ _ _ _ _ _ _ _ _ _ _ _ _ _ _ _ _ _ _ _ _ _ _ _ _ _ _ _ _ _ _ _ _ _ _ _ _ _ _ _ _ _ _ _ _ _ _ _ _ _ _ _ _ _ _ _ _ _ _ _ _ _ _ _ _ _ _ _ _ _ _ _ _ _ _ _ _ _ _ _ _ _ _ _ _ _ _ _ _ _ _ _ _ _ _ _ _ _ _ _ _ _ _ _ _ _ _ _ _ _ _ _ _ _ _ _ _ _ _ _ _ _ _ _ _ _ _ _ _ _ _ _ _ _ _ _ _ _ _ _ _ _ _ _ _ _ _ _ _ _ _ _ _ _ _ _ _ _ _ _ _ _ _ _ _ _ _ _ _ _ _ _ _ _ _ _ _ _ _ _ _ _ _ _ _ _ _ _ _ _ _ _ _ _ _ _ _ _ _ _ _ _ _ _ _ _ _ _ _ _ _ _ _ _ _ _ _ _ _ _ _ _ _ _ _ _ _ _ _ _ _ _ _ _ _ _ _ _ _ _ _ _ _ _ _ _ _ _ _ _ _ _ _ _ _ _ _ _ _ _ _ _ _ _ _ _ _ _ _ _ _ _ _ _ _ _ _ true cc w wr _ b i k c1 t _ _ A1 s kk y true _ hE hi HI HS hkk hy hkb hg (fun a' w'' hS => ?_) hc7 hb.out
    exact HK2.out _ _ (tail_a hS hi hQ)
  · have d1 : decide (0 ≤ kk) = true := decide_eq_true (by omega)
    have d2 : decide (kk < (t.cnt : Int)) = true := decide_eq_true (by omega)
    have d3 : decide (0 ≤ y) = true := decide_eq_true (by omega)
    have d4 : decide (y ≤ 1000000) = false := decide_eq_false (by omega)
    go_wp2_with fail
    go_at_call 21
    refine (at_s HS HI.out.1.work.below 1 c1).mono ?_
    rintro e wq ⟨rfl, e1⟩
    rw [e1, hkk.out]
    clear e1 wq
    go_wp2_with fail
    go_at_call 21
    refine (at_s HS HI.out.1.work.below 3 c1).mono ?_
    rintro e wq ⟨rfl, e1⟩
    rw [e1, hy.out]
    clear e1 wq

    go_wp2_with fail
    go_at_call 21
    refine (at_s HS HI.out.1.work.below 3 c1).mono ?_
    rintro e wq ⟨rfl, e1⟩
    rw [e1, hy.out]
    clear e1 wq
    go_upto_region 11 with fail
    rename_i K2 hK2 K hK
    have HK2 := Lib.hid hK2
    clear hK2
    have HK := Lib.hid hK
    clear hK
    go_wp2_with fail
    go_at_call 21
    refine (at_s HS HI.out.1.work.below 0 c1).mono ?_
    rintro e wq ⟨rfl, e1⟩
    rw [e1]
    clear e1 wq
    go_wp2_with fail
    go_at_call 22
    refine (pick_any (s.getD 0 0) 7 wr hw0.out (by omega)).mono ?_
    rintro e wq ⟨rfl, e1⟩
    rw [e1]
    clear e1 wq
    have hc7 : 0 ≤ ((s.getD 0 0).tmod 7 + 7) % 7 ∧ ((s.getD 0 0).tmod 7 + 7) % 7 < 7 := by omega
    generalize ((s.getD 0 0).tmod 7 + 7) % 7 = cc at hc7 ⊢
    have hg : Hid (false = decide (0 ≤ y ∧ y ≤ 1000000)) := by
      show false = _
      first | exact (decide_eq_true (by omega)).symm | exact (decide_eq_false (by omega)).symm
    have hb : Hid (true = decide (0 ≤ kk ∧ kk < t.cnt)) := by
      show true = _
      first | exact (decide_eq_true (by omega)).symm | exact (decide_eq_false (by omega)).symm
    go_wp2_with fail
    apply HK.out
    refine swAll _ _ _ _ _ _ _ _ _ _ _ _ _ _ _ _ _ _ _ _ _ _ _ _ _ _ _ _ _ _ _ _ _ _ _ _ _ _ _ _ _ _ _ _ _ _ _ _ _ _ _ _ _ _ _ _ _ _ _ _ _ _ _ _ _ _ _ _ _ _ _ _ _ _ _ _ _ _ _ _ _ _ _ _ _ _ _ _ _ _ _ _ _ _ _ _ _ _ _ _ _ _ _ _ _ _ _ _ _ _ _ _ _ _ _ _ _ _ _ _ _ _ _ _ _ _ _ _ _ _ _ _ _ _ _ _ _ _ _ _ _ _ _ _ _ _ _ _ _ _ _ _ _ _ _ _ _ _ _ _ _ _ _ _ _ _ _ _ _ _ _ _ _ _ _ _ _ _ _ _ _ _ _ _ _ _ _ _ _ _ _ _ _ _ _ _ _ _ _ _ _ _ _ _ _ _ _ _ _ _ _ _ _ _ _ _ _ _ _ _ _ _ _ _ _ _ _ _ _ _ _ _ _ _ _ _ _ _ _ _ _ _ _ _ _ _ _ _ _ _ _ _ _ _ _ _ _ _ _ _ _ _ _ _ _ _ _ _ _ _ _ _ _ _ _ _ _ _ _ _ _ _ _ _ _ _ _ _ _ _ _ _ _ _ _ _ _ _ _ _ _ _ _ _ _ _ _ _ _ _ _ _ _ _ _ _ _ true cc w wr _ b i k c1 t _ _ A1 s kk y false _ hE hi HI HS hkk hy hkb hg (fun a' w'' hS => ?_) hc7 hb.out
    exact HK2.out _ _ (tail_a hS hi hQ)
  · have d1 : decide (0 ≤ kk) = true := decide_eq_true (by omega)
    have d2 : decide (kk < (t.cnt : Int)) = false := decide_eq_false (by omega)
    have d3 : decide (0 ≤ y) = false := decide_eq_false (by omega)
    go_wp2_with fail
    go_at_call 21
    refine (at_s HS HI.out.1.work.below 1 c1).mono ?_
    rintro e wq ⟨rfl, e1⟩
    rw [e1, hkk.out]
    clear e1 wq
    go_wp2_with fail
    go_at_call 21
    refine (at_s HS HI.out.1.work.below 3 c1).mono ?_
    rintro e wq ⟨rfl, e1⟩
    rw [e1, hy.out]
    clear e1 wq

    go_upto_region 11 with fail
    rename_i K2 hK2 K hK
    have HK2 := Lib.hid hK2
    clear hK2
    have HK := Lib.hid hK
    clear hK
    go_wp2_with fail
    go_at_call 21
    refine (at_s HS HI.out.1.work.below 0 c1).mono ?_
    rintro e wq ⟨rfl, e1⟩
    rw [e1]
    clear e1 wq
    go_wp2_with fail
    go_at_call 22
    refine (pick_any (s.getD 0 0) 7 wr hw0.out (by omega)).mono ?_
    rintro e wq ⟨rfl, e1⟩
    rw [e1]
    clear e1 wq
    have hc7 : 0 ≤ ((s.getD 0 0).tmod 7 + 7) % 7 ∧ ((s.getD 0 0).tmod 7 + 7) % 7 < 7 := by omega
    generalize ((s.getD 0 0).tmod 7 + 7) % 7 = cc at hc7 ⊢
    have hg : Hid (false = decide (0 ≤ y ∧ y ≤ 1000000)) := by
      show false = _
      first | exact (decide_eq_true (by omega)).symm | exact (decide_eq_false (by omega)).symm
    have hb : Hid (false = decide (0 ≤ kk ∧ kk < t.cnt)) := by
      show false = _
      first | exact (decide_eq_true (by omega)).symm | exact (decide_eq_false (by omega)).symm
    go_wp2_with fail
    apply HK.out
    refine swAll _ _ _ _ _ _ _ _ _ _ _ _ _ _ _ _ _ _ _ _ _ _ _ _ _ _ _ _ _ _ _ _ _ _ _ _ _ _ _ _ _ _ _ _ _ _ _ _ _ _ _ _ _ _ _ _ _ _ _ _ _ _ _ _ _ _ _ _ _ _ _ _ _ _ _ _ _ _ _ _ _ _ _ _ _ _ _ _ _ _ _ _ _ _ _ _ _ _ _ _ _ _ _ _ _ _ _ _ _ _ _ _ _ _ _ _ _ _ _ _ _ _ _ _ _ _ _ _ _ _ _ _ _ _ _ _ _ _ _ _ _ _ _ _ _ _ _ _ _ _ _ _ _ _ _ _ _ _ _ _ _ _ _ _ _ _ _ _ _ _ _ _ _ _ _ _ _ _ _ _ _ _ _ _ _ _ _ _ _ _ _ _ _ _ _ _ _ _ _ _ _ _ _ _ _ _ _ _ _ _ _ _ _ _ _ _ _ _ _ _ _ _ _ _ _ _ _ _ _ _ _ _ _ _ _ _ _ _ _ _ _ _ _ _ _ _ _ _ _ _ _ _ _ _ _ _ _ _ _ _ _ _ _ _ _ _ _ _ _ _ _ _ _ _ _ _ _ _ _ _ _ _ _ _ _ _ _ _ _ _ _ _ _ _ _ _ _ _ _ _ _ _ _ _ _ _ _ _ _ _ _ _ _ _ _ _ _ false cc w wr _ b i k c1 t _ _ A1 s kk y false _ hE hi HI HS hkk hy hkb hg (fun a' w'' hS => ?_) hc7 hb.out
    exact HK2.out _ _ (tail_a hS hi hQ)
  · have d1 : decide (0 ≤ kk) = true := decide_eq_true (by omega)
    have d2 : decide (kk < (t.cnt : Int)) = false := decide_eq_false (by omega)
    have d3 : decide (0 ≤ y) = true := decide_eq_true (by omega)
    have d4 : decide (y ≤ 1000000) = true := decide_eq_true (by omega)
    go_wp2_with fail
    go_at_call 21
    refine (at_s HS HI.out.1.work.below 1 c1).mono ?_
    rintro e wq ⟨rfl, e1⟩
    rw [e1, hkk.out]
    clear e1 wq
    go_wp2_with fail
    go_at_call 21
    refine (at_s HS HI.out.1.work.below 3 c1).mono ?_
    rintro e wq ⟨rfl, e1⟩
    rw [e1, hy.out]
    clear e1 wq

    go_wp2_with fail
    go_at_call 21
    refine (at_s HS HI.out.1.work.below 3 c1).mono ?_
    rintro e wq ⟨rfl, e1⟩
    rw [e1, hy.out]
    clear e1 wq
    go_upto_region 11 with fail
    rename_i K2 hK2 K hK
    have HK2 := Lib.hid hK2
    clear hK2
    have HK := Lib.hid hK
    clear hK
    go_wp2_with fail
    go_at_call 21
    refine (at_s HS HI.out.1.work.below 0 c1).mono ?_
    rintro e wq ⟨rfl, e1⟩
    rw [e1]
    clear e1 wq
    go_wp2_with fail
    go_at_call 22
    refine (pick_any (s.getD 0 0) 7 wr hw0.out (by omega)).mono ?_
    rintro e wq ⟨rfl, e1⟩
    rw [e1]
    clear e1 wq
    have hc7 : 0 ≤ ((s.getD 0 0).tmod 7 + 7) % 7 ∧ ((s.getD 0 0).tmod 7 + 7) % 7 < 7 := by omega
    generalize ((s.getD 0 0).tmod 7 + 7) % 7 = cc at hc7 ⊢
    have hg : Hid (true = decide (0 ≤ y ∧ y ≤ 1000000)) := by
      show true = _
      first | exact (decide_eq_true (by omega)).symm | exact (decide_eq_false (by omega)).symm
    have hb : Hid (false = decide (0 ≤ kk ∧ kk < t.cnt)) := by
      show false = _
      first | exact (decide_eq_true (by omega)).symm | exact (decide_eq_false (by omega)).symm
    go_wp2_with fail
    apply HK.out
    refine swAll _ _ _ _ _ _ _ _ _ _ _ _ _ _ _ _ _ _ _ _ _ _ _ _ _ _ _ _ _ _ _ _ _ _ _ _ _ _ _ _ _ _ _ _ _ _ _ _ _ _ _ _ _ _ _ _ _ _ _ _ _ _ _ _ _ _ _ _ _ _ _ _ _ _ _ _ _ _ _ _ _ _ _ _ _ _ _ _ _ _ _ _ _ _ _ _ _ _ _ _ _ _ _ _ _ _ _ _ _ _ _ _ _ _ _ _ _ _ _ _ _ _ _ _ _ _ _ _ _ _ _ _ _ _ _ _ _ _ _ _ _ _ _ _ _ _ _ _ _ _ _ _ _ _ _ _ _ _ _ _ _ _ _ _ _ _ _ _ _ _ _ _ _ _ _ _ _ _ _ _ _ _ _ _ _ _ _ _ _ _ _ _ _ _ _ _ _ _ _ _ _ _ _ _ _ _ _ _ _ _ _ _ _ _ _ _ _ _ _ _ _ _ _ _ _ _ _ _ _ _ _ _ _ _ _ _ _ _ _ _ _ _ _ _ _ _ _ _ _ _ _ _ _ _ _ _ _ _ _ _ _ _ _ _ _ _ _ _ _ _ _ _ _ _ _ _ _ _ _ _ _ _ _ _ _ _ _ _ _ _ _ _ _ _ _ _ _ _ _ _ _ _ _ _ _ _ _ _ _ _ _ _ _ _ _ _ _ false cc w wr _ b i k c1 t _ _ A1 s kk y true _ hE hi HI HS hkk hy hkb hg (fun a' w'' hS => ?_) hc7 hb.out
    exact HK2.out _ _ (tail_a hS hi hQ)
  · have d1 : decide (0 ≤ kk) = true := decide_eq_true (by omega)
    have d2 : decide (kk < (t.cnt : Int)) = false := decide_eq_false (by omega)
    have d3 : decide (0 ≤ y) = true := decide_eq_true (by omega)
    have d4 : decide (y ≤ 1000000) = false := decide_eq_false (by omega)
    go_wp2_with fail
    go_at_call 21
    refine (at_s HS HI.out.1.work.below 1 c1).mono ?_
    rintro e wq ⟨rfl, e1⟩
    rw [e1, hkk.out]
    clear e1 wq
    go_wp2_with fail
    go_at_call 21
    refine (at_s HS HI.out.1.work.below 3 c1).mono ?_
    rintro e wq ⟨rfl, e1⟩
    rw [e1, hy.out]
    clear e1 wq

    go_wp2_with fail
    go_at_call 21
    refine (at_s HS HI.out.1.work.below 3 c1).mono ?_
    rintro e wq ⟨rfl, e1⟩
    rw [e1, hy.out]
    clear e1 wq
    go_upto_region 11 with fail
    rename_i K2 hK2 K hK
    have HK2 := Lib.hid hK2
    clear hK2
    have HK := Lib.hid hK
    clear hK
    go_wp2_with fail
    go_at_call 21
    refine (at_s HS HI.out.1.work.below 0 c1).mono ?_
    rintro e wq ⟨rfl, e1⟩
    rw [e1]
    clear e1 wq
    go_wp2_with fail
    go_at_call 22
    refine (pick_any (s.getD 0 0) 7 wr hw0.out (by omega)).mono ?_
    rintro e wq ⟨rfl, e1⟩
    rw [e1]
    clear e1 wq
    have hc7 : 0 ≤ ((s.getD 0 0).tmod 7 + 7) % 7 ∧ ((s.getD 0 0).tmod 7 + 7) % 7 < 7 := by omega
    generalize ((s.getD 0 0).tmod 7 + 7) % 7 = cc at hc7 ⊢
    have hg : Hid (false = decide (0 ≤ y ∧ y ≤ 1000000)) := by
      show false = _
      first | exact (decide_eq_true (by omega)).symm | exact (decide_eq_false (by omega)).symm
    have hb : Hid (false = decide (0 ≤ kk ∧ kk < t.cnt)) := by
      show false = _
      first | exact (decide_eq_true (by omega)).symm | exact (decide_eq_false (by omega)).symm
    go_wp2_with fail
    apply HK.out
    refine swAll _ _ _ _ _ _ _ _ _ _ _ _ _ _ _ _ _ _ _ _ _ _ _ _ _ _ _ _ _ _ _ _ _ _ _ _ _ _ _ _ _ _ _ _ _ _ _ _ _ _ _ _ _ _ _ _ _ _ _ _ _ _ _ _ _ _ _ _ _ _ _ _ _ _ _ _ _ _ _ _ _ _ _ _ _ _ _ _ _ _ _ _ _ _ _ _ _ _ _ _ _ _ _ _ _ _ _ _ _ _ _ _ _ _ _ _ _ _ _ _ _ _ _ _ _ _ _ _ _ _ _ _ _ _ _ _ _ _ _ _ _ _ _ _ _ _ _ _ _ _ _ _ _ _ _ _ _ _ _ _ _ _ _ _ _ _ _ _ _ _ _ _ _ _ _ _ _ _ _ _ _ _ _ _ _ _ _ _ _ _ _ _ _ _ _ _ _ _ _ _ _ _ _ _ _ _ _ _ _ _ _ _ _ _ _ _ _ _ _ _ _ _ _ _ _ _ _ _ _ _ _ _ _ _ _ _ _ _ _ _ _ _ _ _ _ _ _ _ _ _ _ _ _ _ _ _ _ _ _ _ _ _ _ _ _ _ _ _ _ _ _ _ _ _ _ _ _ _ _ _ _ _ _ _ _ _ _ _ _ _ _ _ _ _ _ _ _ _ _ _ _ _ _ _ _ _ _ _ _ _ _ _ _ _ _ _ _ false cc w wr _ b i k c1 t _ _ A1 s kk y false _ hE hi HI HS hkk hy hkb hg (fun a' w'' hS => ?_) hc7 hb.out
    exact HK2.out _ _ (tail_a hS hi hQ)
end Go.Proofs.YtfaihilehdjfjaaDoor
