/- The law TreePlays: how wide all ahead are. -/
import Derived.Test.YtfaihilehdjfjaaDoorPlayR
namespace Go.Proofs.YtfaihilehdjfjaaDoor
open Go.ChangeShapes Go.WideShapes Go.ChangeAt Go.RowKit

set_option maxHeartbeats 4000000 in
set_option maxRecDepth 40000 in
theorem sw6 (u1 u2 u12 u13 u14 u15 u16 u17 u18 u19 u20 u21 u22 u23 u24 u25 u26 u27 u28 u29 u30 u31 u32 u33 u34 u35 u36 u37 u38 u39 u40 u41 u42 u43 u44 u45 u46 u47 u48 u49 u50 u51 u52 u53 u54 u55 u56 u57 u58 u59 u60 u61 u62 u63 u64 u65 u66 u67 u68 u69 u70 u71 u72 u73 u74 u75 u76 u77 u78 u79 u80 u81 u82 u83 u84 u86 u87 u88 u89 u90 u91 u92 u93 u94 u95 u96 u97 u98 u99 u100 u101 u102 u103 u104 u105 u106 u107 u108 u109 u110 u111 u112 u113 u114 u115 u116 u117 u118 u119 u120 u121 u122 u123 u124 u125 u126 u127 u128 u129 u130 u131 u132 u133 u134 u135 u136 u137 u138 u139 u140 u141 u142 u143 u144 u145 u146 u147 u148 u149 u150 u151 u152 u153 u154 u155 u156 u157 u158 u159 u160 u161 u162 u163 u164 u165 u166 u167 u168 u169 u170 u171 u172 u173 u174 u175 u176 u177 u178 u179 u180 u181 u182 u183 u184 u185 u186 u187 u188 u189 u190 u191 u192 u193 u194 u195 u196 u197 u198 u199 u200 u201 u202 u203 u204 u205 u206 u207 u208 u209 u210 u211 u212 u213 u214 u215 u216 u217 u218 u219 u220 u221 u222 u223 u224 u225 u226 u227 u228 u229 u230 u231 u232 u233 u234 u235 u236 u237 u238 u239 u240 u241 u242 u243 u244 u245 u246 u247 u248 u249 u250 u251 u252 u253 u254 u255 u256 u257 u258 u259 u260 u261 u262 u263 u264 u265 u266 u267 u268 u269 u270 u271 u272 u273 u274 u275 u276 u277 u278 u279 u280 u281 u282 u283 u284 u285 u286 u287 u288 u289 u290 u291 u292 u293 u294 u295 u296 u297 u298 u299 u300 u301 u302 u303 u304 u305 u306 u307 u308 u309 u310 u311 u312 u313 u314 u315 u316 u317 u318 u319 u320 u321 u322 u323 u324 u325 u326 u327 : Value) (w wr : World) (E : Value) (b i k c1 : Nat) (t : T) (v4 v5 : Value) (A1 : Option Addr) (s : List Int) (kk y : Int) (good : Bool) (Q : Exit → Act → World → Prop) (hE : Hid (ErrT w)) (hi : i < 200)
    (HI : Hid (PlayI w wr b t k v4 v5 ∧ t.cnt ≤ i ∧ k ≤ 1000 * i)) (HS : Hid (Reads (· < w.heap.size) w 1 A1 s.length (intsC s))) (hkk : Hid (s.getD 1 0 = kk)) (hy : Hid (s.getD 3 0 = y)) (hkb : -9223372036854775808 ≤ kk ∧ kk ≤ 9223372036854775807)
    (hgood : Hid (good = decide (0 ≤ y ∧ y ≤ 1000000))) (hQ : ∀ a' w'', PlayS w E b i a' w'' → Q .normal a' w'') :
    Code.wp Tryd.prog playSw Q ⟨#[E, u1, u2, .pointer (some ⟨b, 0, none⟩), v4, v5, .int .i64 i, .slice A1 s.length c1, .int .i64 kk, .int .i64 t.cnt, .bool (decide (0 ≤ kk ∧ kk < t.cnt)), .bool good, u12, u13, u14, u15, u16, u17, u18, u19, u20, u21, u22, u23, u24, u25, u26, u27, u28, u29, u30, u31, u32, u33, u34, u35, u36, u37, u38, u39, u40, u41, u42, u43, u44, u45, u46, u47, u48, u49, u50, u51, u52, u53, u54, u55, u56, u57, u58, u59, u60, u61, u62, u63, u64, u65, u66, u67, u68, u69, u70, u71, u72, u73, u74, u75, u76, u77, u78, u79, u80, u81, u82, u83, u84, .int .i64 6, u86, u87, u88, u89, u90, u91, u92, u93, u94, u95, u96, u97, u98, u99, u100, u101, u102, u103, u104, u105, u106, u107, u108, u109, u110, u111, u112, u113, u114, u115, u116, u117, u118, u119, u120, u121, u122, u123, u124, u125, u126, u127, u128, u129, u130, u131, u132, u133, u134, u135, u136, u137, u138, u139, u140, u141, u142, u143, u144, u145, u146, u147, u148, u149, u150, u151, u152, u153, u154, u155, u156, u157, u158, u159, u160, u161, u162, u163, u164, u165, u166, u167, u168, u169, u170, u171, u172, u173, u174, u175, u176, u177, u178, u179, u180, u181, u182, u183, u184, u185, u186, u187, u188, u189, u190, u191, u192, u193, u194, u195, u196, u197, u198, u199, u200, u201, u202, u203, u204, u205, u206, u207, u208, u209, u210, u211, u212, u213, u214, u215, u216, u217, u218, u219, u220, u221, u222, u223, u224, u225, u226, u227, u228, u229, u230, u231, u232, u233, u234, u235, u236, u237, u238, u239, u240, u241, u242, u243, u244, u245, u246, u247, u248, u249, u250, u251, u252, u253, u254, u255, u256, u257, u258, u259, u260, u261, u262, u263, u264, u265, u266, u267, u268, u269, u270, u271, u272, u273, u274, u275, u276, u277, u278, u279, u280, u281, u282, u283, u284, u285, u286, u287, u288, u289, u290, u291, u292, u293, u294, u295, u296, u297, u298, u299, u300, u301, u302, u303, u304, u305, u306, u307, u308, u309, u310, u311, u312, u313, u314, u315, u316, u317, u318, u319, u320, u321, u322, u323, u324, u325, u326, u327], []⟩ wr := by
  conv => arg 2; whnf
  by_cases hpl : 0 ≤ kk ∧ kk ≤ t.cnt
  case neg =>
    have hd : decide (0 ≤ kk ∧ kk < t.cnt) = false := decide_eq_false (by omega)
    rw [hd]
    clear hd
    go_wp2_with fail
    go_at_call 30
    refine (aheadRow_bad b t k kk wr HI.out.1.work.row (by omega)).mono ?_
    rintro e wq ⟨rfl, e1⟩
    rw [e1]
    clear e1 wq
    by_cases g1 : 0 ≤ kk
    all_goals
      first
      | (have d1 : decide (0 ≤ kk) = true := decide_eq_true g1
         have d2 : decide (kk ≤ (t.cnt : Int)) = false := decide_eq_false (by omega))
      | (have d1 : decide (0 ≤ kk) = false := decide_eq_false g1)
      go_wp2_with fail
      go_at_call 10
      refine (same_one wr (HI.out.1.err hE.out)).mono ?_
      rintro e w5 ⟨rfl, hb5⟩
      have H5 : Hid (PlayI w w5 b t k v4 v5 ∧ t.cnt ≤ i + 1 ∧ k ≤ 1000 * (i + 1)) := ⟨HI.out.1.more hb5, by have := HI.out.2; omega, by have := HI.out.2; omega⟩
      clear hb5
      go_wp2_with fail
      exact ⟨⟨rfl, rfl, rfl, rfl⟩, rfl, t, k, v4, _, rfl, rfl, H5⟩
  case pos =>
    obtain ⟨m, rfl⟩ := Int.eq_ofNat_of_zero_le hpl.1
    have hm : m ≤ t.cnt := by omega
    have d1 : decide (0 ≤ (m : Int)) = true := decide_eq_true (by omega)
    have d2 : decide ((m : Int) ≤ (t.cnt : Int)) = true := decide_eq_true (by omega)
    generalize decide (0 ≤ (m : Int) ∧ (m : Int) < t.cnt) = bin
    go_wp2_with fail
    go_at_call 30
    refine (aheadP HI.out.1 (by have := HI.out.2.2; omega) m hm).mono ?_
    rintro e w1 ⟨rfl, k1, hP1, hk1⟩
    have H1 : Hid (PlayI w w1 b t k1 v4 v5) := hP1
    have hk1' : k1 ≤ 1000 * (i + 1) := by have := HI.out.2; omega
    clear hP1 hk1
    have hcb : t.cnt ≤ 1000 := by have := HI.out.2.1; omega
    have o5 := H1.out.lists.own5
    rw [T.wids_length] at o5
    obtain ⟨A5, c5, rfl, -, -, hr5⟩ := Reads.of_own o5
    have R5 := Lib.hid hr5
    have hso := T.wids_ok HI.out.1.work.row.small
    have hs0 : Hid (∀ y ∈ t.wids, 0 ≤ y) := fun y hy => (hso y hy).1
    have hws : t.wids.sum ≤ 1000000000 := by rw [T.wids_sum]; have := (T.wid_le HI.out.1.work.row.small).2; have := HI.out.2.1; omega
    have hso' := Lib.hid hso
    clear o5 hr5 hso
    go_wp2_with fail
    go_loop [42, 43] (fun s42 s43 => ∃ (j : Nat) (ss : Int), s42 = .int .i64 ss ∧ s43 = .int .i64 j ∧ j ≤ m ∧ Hid (ss = (t.wids.take j).sum)) (fun _ s43 => m - (intOf s43).toNat)
    case atStart => exact ⟨0, 0, rfl, rfl, by omega, by show _ = _; simp⟩
    case round =>
      obtain ⟨j, ss, rfl, rfl, hj, HF⟩ := hrel
      by_cases hlt : j < m
      · obtain ⟨b5, f5, rfl, -, hc5⟩ := R5.out.at_ (by omega) (by omega)
        obtain ⟨yj, hyj⟩ : ∃ z, t.wids[j]? = some z := ⟨_, List.getElem?_eq_getElem (by rw [T.wids_length]; omega)⟩
        have x5 : w1.cell? ⟨b5, f5 + j, none⟩ = some (.int .i64 yj) := hc5 j _ (ints_at hyj)
        have hyb := hso'.out yj (List.mem_of_getElem? hyj)
        have hss : 0 ≤ ss ∧ ss + yj ≤ 1000000000 := by
          have e1 := HF.out
          have e2 := sum_take_mono hs0.out (a := 0) (b := j) (by omega)
          have e3 := sum_take_mono hs0.out (a := j + 1) (b := t.wids.length) (by rw [T.wids_length]; omega)
          rw [sum_take_succ hyj, List.take_length] at e3
          simp only [List.take_zero, List.sum_nil] at e2
          omega
        have HY : Hid (ss + yj = (t.wids.take (j + 1)).sum) := by show _ = _; rw [sum_take_succ hyj, HF.out]
        clear hc5 hyj
        go_wp2_with fail
        go_round
        case rel => exact ⟨j + 1, ss + yj, rfl, by go_num, by omega, HY⟩
        case measure => simp [intOf]; omega
      · have hF := HF.out
        rw [show j = m from by omega] at hF
        subst hF
        generalize (t.wids.take m).sum = ss at *
        go_wp2_with fail
        go_at_call 10
        refine (same_ok w1 (H1.out.err hE.out)).mono ?_
        rintro e w5 ⟨rfl, hb5⟩
        have H5 : Hid (PlayI w w5 b t k1 v4 (.slice A5 t.cnt c5) ∧ t.cnt ≤ i + 1 ∧ k1 ≤ 1000 * (i + 1)) := ⟨H1.out.more hb5, by have := HI.out.2; omega, hk1'⟩
        clear hb5
        go_wp2_with fail
        exact ⟨⟨rfl, rfl, rfl, rfl⟩, rfl, t, k1, v4, _, rfl, rfl, H5⟩

end Go.Proofs.YtfaihilehdjfjaaDoor
