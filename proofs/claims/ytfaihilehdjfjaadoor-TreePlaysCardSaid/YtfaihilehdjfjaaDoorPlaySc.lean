/- The law TreePlays: a thing's width made another one. -/
import Derived.Test.YtfaihilehdjfjaaDoorPlayR
namespace Go.Proofs.YtfaihilehdjfjaaDoor
open Go.ChangeShapes Go.WideShapes Go.ChangeAt Go.RowKit

set_option maxHeartbeats 4000000 in
set_option maxRecDepth 40000 in
theorem sw4 (u1 u2 u12 u13 u14 u15 u16 u17 u18 u19 u20 u21 u22 u23 u24 u25 u26 u27 u28 u29 u30 u31 u32 u33 u34 u35 u36 u37 u38 u39 u40 u41 u42 u43 u44 u45 u46 u47 u48 u49 u50 u51 u52 u53 u54 u55 u56 u57 u58 u59 u60 u61 u62 u63 u64 u65 u66 u67 u68 u69 u70 u71 u72 u73 u74 u75 u76 u77 u78 u79 u80 u81 u82 u83 u84 u86 u87 u88 u89 u90 u91 u92 u93 u94 u95 u96 u97 u98 u99 u100 u101 u102 u103 u104 u105 u106 u107 u108 u109 u110 u111 u112 u113 u114 u115 u116 u117 u118 u119 u120 u121 u122 u123 u124 u125 u126 u127 u128 u129 u130 u131 u132 u133 u134 u135 u136 u137 u138 u139 u140 u141 u142 u143 u144 u145 u146 u147 u148 u149 u150 u151 u152 u153 u154 u155 u156 u157 u158 u159 u160 u161 u162 u163 u164 u165 u166 u167 u168 u169 u170 u171 u172 u173 u174 u175 u176 u177 u178 u179 u180 u181 u182 u183 u184 u185 u186 u187 u188 u189 u190 u191 u192 u193 u194 u195 u196 u197 u198 u199 u200 u201 u202 u203 u204 u205 u206 u207 u208 u209 u210 u211 u212 u213 u214 u215 u216 u217 u218 u219 u220 u221 u222 u223 u224 u225 u226 u227 u228 u229 u230 u231 u232 u233 u234 u235 u236 u237 u238 u239 u240 u241 u242 u243 u244 u245 u246 u247 u248 u249 u250 u251 u252 u253 u254 u255 u256 u257 u258 u259 u260 u261 u262 u263 u264 u265 u266 u267 u268 u269 u270 u271 u272 u273 u274 u275 u276 u277 u278 u279 u280 u281 u282 u283 u284 u285 u286 u287 u288 u289 u290 u291 u292 u293 u294 u295 u296 u297 u298 u299 u300 u301 u302 u303 u304 u305 u306 u307 u308 u309 u310 u311 u312 u313 u314 u315 u316 u317 u318 u319 u320 u321 u322 u323 u324 u325 u326 u327 : Value) (w wr : World) (E : Value) (b i k c1 : Nat) (t : T) (v4 v5 : Value) (A1 : Option Addr) (s : List Int) (kk y : Int) (good : Bool) (Q : Exit → Act → World → Prop) (hE : Hid (ErrT w)) (hi : i < 200)
    (HI : Hid (PlayI w wr b t k v4 v5 ∧ t.cnt ≤ i ∧ k ≤ 1000 * i)) (HS : Hid (Reads (· < w.heap.size) w 1 A1 s.length (intsC s))) (hkk : Hid (s.getD 1 0 = kk)) (hy : Hid (s.getD 3 0 = y)) (hkb : -9223372036854775808 ≤ kk ∧ kk ≤ 9223372036854775807)
    (hgood : Hid (good = decide (0 ≤ y ∧ y ≤ 1000000))) (hQ : ∀ a' w'', PlayS w E b i a' w'' → Q .normal a' w'') :
    Code.wp Tryd.prog playSw Q ⟨#[E, u1, u2, .pointer (some ⟨b, 0, none⟩), v4, v5, .int .i64 i, .slice A1 s.length c1, .int .i64 kk, .int .i64 t.cnt, .bool (decide (0 ≤ kk ∧ kk < t.cnt)), .bool good, u12, u13, u14, u15, u16, u17, u18, u19, u20, u21, u22, u23, u24, u25, u26, u27, u28, u29, u30, u31, u32, u33, u34, u35, u36, u37, u38, u39, u40, u41, u42, u43, u44, u45, u46, u47, u48, u49, u50, u51, u52, u53, u54, u55, u56, u57, u58, u59, u60, u61, u62, u63, u64, u65, u66, u67, u68, u69, u70, u71, u72, u73, u74, u75, u76, u77, u78, u79, u80, u81, u82, u83, u84, .int .i64 4, u86, u87, u88, u89, u90, u91, u92, u93, u94, u95, u96, u97, u98, u99, u100, u101, u102, u103, u104, u105, u106, u107, u108, u109, u110, u111, u112, u113, u114, u115, u116, u117, u118, u119, u120, u121, u122, u123, u124, u125, u126, u127, u128, u129, u130, u131, u132, u133, u134, u135, u136, u137, u138, u139, u140, u141, u142, u143, u144, u145, u146, u147, u148, u149, u150, u151, u152, u153, u154, u155, u156, u157, u158, u159, u160, u161, u162, u163, u164, u165, u166, u167, u168, u169, u170, u171, u172, u173, u174, u175, u176, u177, u178, u179, u180, u181, u182, u183, u184, u185, u186, u187, u188, u189, u190, u191, u192, u193, u194, u195, u196, u197, u198, u199, u200, u201, u202, u203, u204, u205, u206, u207, u208, u209, u210, u211, u212, u213, u214, u215, u216, u217, u218, u219, u220, u221, u222, u223, u224, u225, u226, u227, u228, u229, u230, u231, u232, u233, u234, u235, u236, u237, u238, u239, u240, u241, u242, u243, u244, u245, u246, u247, u248, u249, u250, u251, u252, u253, u254, u255, u256, u257, u258, u259, u260, u261, u262, u263, u264, u265, u266, u267, u268, u269, u270, u271, u272, u273, u274, u275, u276, u277, u278, u279, u280, u281, u282, u283, u284, u285, u286, u287, u288, u289, u290, u291, u292, u293, u294, u295, u296, u297, u298, u299, u300, u301, u302, u303, u304, u305, u306, u307, u308, u309, u310, u311, u312, u313, u314, u315, u316, u317, u318, u319, u320, u321, u322, u323, u324, u325, u326, u327], []⟩ wr := by
  conv => arg 2; whnf
  by_cases hin : 0 ≤ kk ∧ kk < t.cnt
  case neg =>
    have hd : decide (0 ≤ kk ∧ kk < t.cnt) = false := decide_eq_false hin
    rw [hd]
    clear hd
    go_wp2_with fail
    go_at_call 21
    refine (at_s HS HI.out.1.work.below 3 c1).mono ?_
    rintro e wq ⟨rfl, e1⟩
    rw [e1, hy.out]
    clear e1 wq
    go_wp2_with fail
    go_at_call 28
    refine (setRow_bad b t k kk y wr HI.out.1.work.row (by omega)).mono ?_
    rintro e wq ⟨rfl, e1⟩
    rw [e1]
    clear e1 wq
    go_wp2_with fail
    go_at_call 10
    refine (same_one wr (HI.out.1.err hE.out)).mono ?_
    rintro e w2 ⟨rfl, hb2⟩
    have H2 : Hid (PlayI w w2 b t k v4 v5 ∧ t.cnt ≤ i + 1 ∧ k ≤ 1000 * (i + 1)) := ⟨HI.out.1.more hb2, by have := HI.out.2; omega, by have := HI.out.2; omega⟩
    clear hb2
    go_wp2_with fail
    exact ⟨⟨rfl, rfl, rfl, rfl⟩, rfl, t, k, v4, v5, rfl, rfl, H2⟩
  have hd : decide (0 ≤ kk ∧ kk < t.cnt) = true := decide_eq_true hin
  rw [hd]
  clear hd
  obtain ⟨m, rfl⟩ := Int.eq_ofNat_of_zero_le hin.1
  have hm : m < t.cnt := by omega
  cases good with
  | false =>
    have h3 : ¬ (0 ≤ y ∧ y ≤ 1000000) := of_decide_eq_false hgood.out.symm
    go_wp2_with fail
    go_at_call 21
    refine (at_s HS HI.out.1.work.below 3 c1).mono ?_
    rintro e wq ⟨rfl, e1⟩
    rw [e1, hy.out]
    clear e1 wq
    go_wp2_with fail
    go_at_call 28
    refine (setRow_bad b t k m y wr HI.out.1.work.row (.inr (.inr h3))).mono ?_
    rintro e wq ⟨rfl, e1⟩
    rw [e1]
    clear e1 wq
    go_wp2_with fail
    go_at_call 10
    refine (same_one wr (HI.out.1.err hE.out)).mono ?_
    rintro e w2 ⟨rfl, hb2⟩
    have H2 : Hid (PlayI w w2 b t k v4 v5 ∧ t.cnt ≤ i + 1 ∧ k ≤ 1000 * (i + 1)) := ⟨HI.out.1.more hb2, by have := HI.out.2; omega, by have := HI.out.2; omega⟩
    clear hb2
    go_wp2_with fail
    exact ⟨⟨rfl, rfl, rfl, rfl⟩, rfl, t, k, v4, v5, rfl, rfl, H2⟩
  | true =>
    have h3 : 0 ≤ y ∧ y ≤ 1000000 := of_decide_eq_true hgood.out.symm
    have o5 := HI.out.1.lists.own5
    rw [T.wids_length] at o5
    obtain ⟨g5, c5, rfl, hg5, -⟩ : ∃ g c, v5 = .slice (some ⟨g, 0, none⟩) t.cnt c ∧ w.heap.size ≤ g ∧ True := by
      obtain ⟨-, h | ⟨g, cap, cur, h1, h2, -⟩⟩ := o5
      · omega
      · exact ⟨g, cap, h1, h2, trivial⟩
    have hap := HI.out.1.lists.apart HI.out.1.work g5 (.inr rfl)
    have x5 : wr.cell? ⟨g5, m, none⟩ = (intsC t.wids)[m]? := o5.cellAt m (by omega)
    obtain ⟨z, hz⟩ : ∃ z, t.wids[m]? = some z := ⟨_, List.getElem?_eq_getElem (by rw [T.wids_length]; exact hm)⟩
    rw [ints_at hz] at x5
    have q5 : wr.frozen? ⟨g5, m, none⟩ = false := o5.frozenAt m
    have hC : Chg (fun j => j = g5) wr (wr.setCell ⟨g5, m, none⟩ (.int .i64 y)) := (Chg.refl wr).put_ m _
    have H1 : Hid (WorkI w (wr.setCell ⟨g5, m, none⟩ (.int .i64 y)) b t k ∧ Lists w (wr.setCell ⟨g5, m, none⟩ (.int .i64 y)) v4 (.slice (some ⟨g5, 0, none⟩) t.cnt c5) t.things (t.wids.set m y)) := by
      refine ⟨⟨HI.out.1.work.row.keep hC (fun e => hap (.inl e.symm)) (fun j hj e => hap (.inr (e ▸ hj))), HI.out.1.work.base, HI.out.1.work.ads, HI.out.1.work.below.setCell hg5 _⟩, ⟨own_keep HI.out.1.lists.own4 fun g hg => hC.block g (own_lt HI.out.1.lists.own4 hg).2 (fun e => HI.out.1.lists.sep g hg (by rw [e]; rfl)), ?_, HI.out.1.lists.sep⟩⟩
      have hset : intsC (t.wids.set m y) = (intsC t.wids).set m (.int .i64 y) := by simp [intsC, List.map_set]
      rw [List.length_set, T.wids_length, hset]
      exact (o5.stored m _).1
    clear o5 hC hap hz
    go_wp2_with fail
    go_at_call 21
    refine (at_s HS HI.out.1.work.below 3 c1).mono ?_
    rintro e wq ⟨rfl, e1⟩
    rw [e1, hy.out]
    clear e1 wq
    go_wp2_with fail
    generalize wr.setCell ⟨g5, m, none⟩ (.int .i64 y) = w1 at H1 ⊢
    clear x5 q5
    go_at_call 21
    refine (at_s HS H1.out.1.below 3 c1).mono ?_
    rintro e wq ⟨rfl, e1⟩
    rw [e1, hy.out]
    clear e1 wq
    go_wp2_with fail
    go_at_call 28
    refine (setP H1.out.1 H1.out.2 (by have := HI.out.2.2; omega) m y hm h3).mono ?_
    rintro e w2 ⟨rfl, t1, k1, hW1, hL1, hth, hwd, hct, hk1⟩
    have H2 : Hid (PlayI w w2 b t1 k1 v4 (.slice (some ⟨g5, 0, none⟩) t.cnt c5)) := ⟨hW1, by rw [hth, hwd]; exact hL1⟩
    have H2' : Hid (t1.cnt ≤ i + 1 ∧ k1 ≤ 1000 * (i + 1)) := ⟨by have := HI.out.2; omega, by have := HI.out.2; omega⟩
    clear hW1 hL1 hth hwd hct hk1
    go_wp2_with fail
    go_at_call 10
    refine (same_ok w2 (H2.out.err hE.out)).mono ?_
    rintro e w3 ⟨rfl, hb3⟩
    have H3 : Hid (PlayI w w3 b t1 k1 v4 (.slice (some ⟨g5, 0, none⟩) t.cnt c5) ∧ t1.cnt ≤ i + 1 ∧ k1 ≤ 1000 * (i + 1)) := ⟨H2.out.more hb3, H2'.out⟩
    clear hb3
    go_wp2_with fail
    exact ⟨⟨rfl, rfl, rfl, rfl⟩, rfl, t1, k1, v4, _, rfl, rfl, H3⟩

end Go.Proofs.YtfaihilehdjfjaaDoor
